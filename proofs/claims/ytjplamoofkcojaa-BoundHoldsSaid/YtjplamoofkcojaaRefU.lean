/- The reference's operation: a slot is noted; the least one that is not noted. -/
import Derived.Test.YtjplamoofkcojaaRefA
import Derived.Test.YtjplamoofkcojaaRop7
namespace Go.Proofs.Ytjplamoofkcojaa.ref
open Go Go.RowKit Go.Proofs.Ytjplamoofkcojaa.kit Go.Proofs.Ytjplamoofkcojaa.obj Go.Proofs.Ytjplamoofkcojaa.rop
set_option linter.unusedVariables false
set_option linter.unusedSimpArgs false
set_option maxRecDepth 20000

def setU (u : Nat → Bool) (s : Nat) : Nat → Bool := fun j => if j = s then true else u j
/-- a slot is noted, if there is one of that number -/
def noteU (n : Int) (u : Nat → Bool) (s : Int) : Nat → Bool := if s < n then setU u s.toNat else u
theorem noteU_eq (n : Int) (u : Nat → Bool) (s : Int) (hs : 0 ≤ s) (j : Nat) (hj : (j : Int) < n) : noteU n u s j = (u j || decide (s = (j : Int))) := by
  unfold noteU
  split
  · unfold setU
    by_cases h : j = s.toNat
    · have h2 : s = (j : Int) := by omega
      rw [if_pos h, decide_eq_true h2]; simp
    · have h2 : ¬ s = (j : Int) := by omega
      rw [if_neg h, decide_eq_false h2]; simp
  · have h2 : ¬ s = (j : Int) := by omega
    rw [decide_eq_false h2]; simp
theorem cells_u (x : ROp) (s : Nat) (h : s < 20) : x.cells[18 + s]? = some (.bool (x.u s)) := by
  rcases (by omega : s = 0 ∨ s = 1 ∨ s = 2 ∨ s = 3 ∨ s = 4 ∨ s = 5 ∨ s = 6 ∨ s = 7 ∨ s = 8 ∨ s = 9 ∨ s = 10 ∨ s = 11 ∨ s = 12 ∨ s = 13 ∨ s = 14 ∨ s = 15 ∨ s = 16 ∨ s = 17 ∨ s = 18 ∨ s = 19) with rfl | rfl | rfl | rfl | rfl | rfl | rfl | rfl | rfl | rfl | rfl | rfl | rfl | rfl | rfl | rfl | rfl | rfl | rfl | rfl <;> rfl
theorem cells_set (x : ROp) (s : Nat) (h : s < 20) : x.cells.setIfInBounds (18 + s) (.bool true) = ({ x with u := setU x.u s } : ROp).cells := by
  rcases (by omega : s = 0 ∨ s = 1 ∨ s = 2 ∨ s = 3 ∨ s = 4 ∨ s = 5 ∨ s = 6 ∨ s = 7 ∨ s = 8 ∨ s = 9 ∨ s = 10 ∨ s = 11 ∨ s = 12 ∨ s = 13 ∨ s = 14 ∨ s = 15 ∨ s = 16 ∨ s = 17 ∨ s = 18 ∨ s = 19) with rfl | rfl | rfl | rfl | rfl | rfl | rfl | rfl | rfl | rfl | rfl | rfl | rfl | rfl | rfl | rfl | rfl | rfl | rfl | rfl <;> simp [ROp.cells, setU]
set_option maxHeartbeats 4000000 in
theorem note_any (bx : Nat) (x : ROp) (s : Int) (W : World) (h : RAt W bx x) (hs : 0 ≤ s ∧ s ≤ 4294967295) (hrl : x.rl ≤ 100) (hn : recordsI x.k x.s x.rl ≤ 16) :
    Calls Try.prog 71 #[.pointer (some ⟨bx, 0, none⟩), .int .u32 s] W fun e W' => e = .returned (.tuple #[]) ∧ RAt W' bx { x with u := noteU (recordsI x.k x.s x.rl) x.u s } ∧ Chg [bx] W W' := by
  have HREC := fun u => Records_any x.k x.w x.s x.c x.st x.ia x.il x.ic x.wr x.ra x.rl x.rc hrl u
  generalize recordsI x.k x.s x.rl = n at *
  have HREC := Lib.hid HREC
  have HB : Hid (Blk W bx x.cells 45) := Lib.hid h
  have e0 : W.cell? ⟨bx, 0, none⟩ = some (.int .i64 x.k) := HB.out.cell rfl
  have e1 : W.cell? ⟨bx, 1, none⟩ = some (.int .i64 x.w) := HB.out.cell rfl
  have e2 : W.cell? ⟨bx, 2, none⟩ = some (.int .i64 x.s) := HB.out.cell rfl
  have e3 : W.cell? ⟨bx, 3, none⟩ = some (.int .i64 x.c) := HB.out.cell rfl
  have e4 : W.cell? ⟨bx, 4, none⟩ = some (.int .u32 x.st) := HB.out.cell rfl
  have e5 : W.cell? ⟨bx, 5, none⟩ = some (.slice x.ia x.il x.ic) := HB.out.cell rfl
  have e6 : W.cell? ⟨bx, 6, none⟩ = some (.int .i64 x.wr) := HB.out.cell rfl
  have e7 : W.cell? ⟨bx, 7, none⟩ = some (.slice x.ra x.rl x.rc) := HB.out.cell rfl
  by_cases hlt : s < n
  · obtain ⟨sN, rfl⟩ : ∃ sN : Nat, s = (sN : Int) := ⟨s.toNat, by omega⟩
    have hs20 : sN < 20 := by omega
    have HPOST : Hid (noteU n x.u (sN : Int) = setU x.u sN) := Lib.hid (by unfold noteU; rw [if_pos hlt]; simp)
    have HSET := Lib.hid (cells_set x sN hs20)
    have HCELL := Lib.hid (cells_u x sN hs20)
    have kc : IntKind.i64.wrap (sN : Int) = (sN : Int) := by rw [IntKind.wrap_i64]; omega
    have hltb : decide ((sN : Int) < n) = true := by simpa using hlt
    have hi20 : (sN : Int) < 20 := by omega
    clear h hs hrl hn hlt hs20
    go_enter Try.func71, Try.ntmps71
    go_wp2_with (go_at_call 67; refine (HREC.out _).mono ?_; rintro e w1 ⟨rfl, hc⟩; have HB1 : Hid (Blk w1 bx x.cells 45) := Lib.hid (HB.out.keep hc (by simp)); have eu : w1.cell? ⟨bx, 18 + sN, none⟩ = some (.bool (x.u sN)) := HB1.out.cell HCELL.out; have fu := HB1.out.free (18 + sN); have HC1 := Lib.hid hc; clear hc)
    go_end0
    refine ⟨rfl, ?_, (HC1.out.mono (by simp)).setCell (.inl (by simp)) _⟩
    rw [HPOST.out]
    have h9 := HB1.out.set (18 + sN) (.bool true)
    rw [HSET.out] at h9
    exact h9
  · have HPOST : Hid (noteU n x.u s = x.u) := Lib.hid (by unfold noteU; rw [if_neg hlt])
    have kc : IntKind.i64.wrap s = s := by rw [IntKind.wrap_i64]; omega
    have hltb : decide (s < n) = false := by simpa using hlt
    clear h hs hrl hn hlt
    go_enter Try.func71, Try.ntmps71
    go_wp2_with (go_at_call 67; refine (HREC.out _).mono ?_; rintro e w1 ⟨rfl, hc⟩; have HC1 := Lib.hid hc; clear hc)
    go_end0
    refine ⟨rfl, ?_, HC1.out.mono (by simp)⟩
    rw [HPOST.out]
    exact Blk.keep HB.out HC1.out (by simp)
set_option maxHeartbeats 4000000 in
theorem choose_any (bx : Nat) (x : ROp) (f : Nat) (W : World) (h : RAt W bx x) (hf : f < 20) (hff : x.u f = false) (hfl : ∀ j, j < f → x.u j = true) :
    Calls Try.prog 72 #[.pointer (some ⟨bx, 0, none⟩)] W fun e W' => e = .returned (.int .u32 (f : Int)) ∧ W = W' := by
  have HB : Hid (Blk W bx x.cells 45) := Lib.hid h
  have HFL := Lib.hid hfl
  have HFF := Lib.hid hff
  have HF := Lib.hid hf
  have kf : IntKind.u32.wrap (f : Int) = (f : Int) := by rw [IntKind.wrap_u32]; omega
  clear h hfl hff hf
  go_enter Try.func72, Try.ntmps72
  go_wp2
  go_loop [4] (fun i => ∃ k : Nat, k ≤ f ∧ i = .int .i64 (k : Int)) (fun i => 20 - (intOf i).toNat)
  case atStart => exact ⟨0, Nat.zero_le _, rfl⟩
  case round =>
    obtain ⟨k, hk, rfl⟩ := hrel
    have hk20 : (k : Int) < 20 := by have := HF.out; omega
    have k9 : IntKind.i64.wrap ((k : Int) + 1) = (k : Int) + 1 := by rw [IntKind.wrap_i64]; omega
    have e : W.cell? ⟨bx, 18 + k, none⟩ = some (.bool (x.u k)) := HB.out.cell (cells_u x k (by omega))
    by_cases hkf : k < f
    · rw [HFL.out k hkf] at e
      go_wp2
      go_round
      case rel => exact ⟨k + 1, by omega, by go_num⟩
      case measure => simp [intOf]; omega
    · obtain rfl : k = f := by omega
      rw [HFF.out] at e
      clear hk hkf
      go_wp2
      go_ret
      exact ⟨rfl, rfl⟩
end Go.Proofs.Ytjplamoofkcojaa.ref
