/- The memory's law: its example; Write of any place. -/
import Derived.Test.YtihgljfiggdcpaaMem4
namespace Go.Proofs.Ytihgljfiggdcpaa.mem
open Go Go.RowKit Go.Proofs.Ytihgljfiggdcpaa.kit
set_option linter.unusedVariables false
set_option maxRecDepth 20000

def wrL (ws : List Int) (i x : Int) : List Int := if 0 ≤ i ∧ i < ws.length then ws.set i.toNat x else ws
theorem wrL_length (ws : List Int) (i x : Int) : (wrL ws i x).length = ws.length := by unfold wrL; split <;> simp
theorem Write_any (b : Nat) (sv : Value) (ws : List Int) (n : Int) (i x : Int) (w : World) (h : MemAt w b sv ws n) (hn0 : 0 ≤ n) (hn : n ≤ 1000000000000) (hx : (Lit.int .u32 x).wf = true) :
    Calls Try.prog 12 #[.pointer (some ⟨b, 0, none⟩), .int .i64 i, .int .u32 x] w fun e w' => ∃ k m, e = .returned (.int .i64 k) ∧ MemAt w' b sv (wrL ws i x) m ∧ 0 ≤ m ∧ m ≤ n + 1 ∧ Chg (b :: sv.ownBlock.toList) w w' := by
  by_cases hin : 0 ≤ i ∧ i < ws.length
  · obtain ⟨j, rfl⟩ := Int.eq_ofNat_of_zero_le hin.1
    have hj : j < ws.length := by omega
    obtain ⟨g, c, rfl⟩ := h.live (by omega)
    refine (Write_ok b g c ws n j x w h hj hn0 hn hx).mono ?_
    rintro e w' ⟨rfl, h', hc⟩
    refine ⟨0, n + 1, rfl, ?_, by omega, by omega, hc⟩
    have : wrL ws (j : Int) x = ws.set j x := by unfold wrL; rw [if_pos hin]; simp
    rw [this]; exact h'
  · have : wrL ws i x = ws := by unfold wrL; rw [if_neg hin]
    rw [this]
    refine (Write_out b sv ws n i x w h (by omega)).mono ?_
    rintro e w' ⟨rfl, rfl⟩
    exact ⟨5, n, rfl, h, hn0, by omega, Chg.refl _ _⟩

set_option maxRecDepth 100000 in
set_option maxHeartbeats 2000000 in
theorem awake_any (w : World) : Calls Try.prog 8 #[] w fun e w' => e = .returned (.bool true) ∧ Chg [] w w' := by
  go_enter Try.func8, Try.ntmps8
  go_wp2_with (first | (go_at_call 9; refine (New_ok 2 _ (by omega)).mono ?_; rintro e w1 ⟨b, sv, rfl, h1, hc1, hb1, hg1⟩; obtain ⟨g, c, rfl⟩ := h1.live (by decide); have H1 := Lib.hid h1; have HC1 := Lib.hid hc1; clear h1 hc1))
  refine (Cas_yes b g c _ 0 1 0 5 _ H1.out (by decide) (by omega) (by omega) (by decide) (by decide)).mono ?_
  rintro e w2 ⟨rfl, h2, hc2⟩
  have H2 := Lib.hid h2
  clear h2
  go_wp2_with fail
  refine (Cas_no b g c [0, 5] 1 1 0 6 _ H2.out (by decide) (by omega) (by omega) (by decide)).mono ?_
  rintro e w3 ⟨rfl, h3, hc3⟩
  have H3 := Lib.hid h3
  clear h3
  go_wp2_with fail
  refine (Read_ok b g c [0, 5] 2 1 _ H3.out (by decide) (by omega) (by omega)).mono ?_
  rintro e w4 ⟨rfl, h4, hc4⟩
  have H4 := Lib.hid h4
  clear h4
  go_wp2_with fail
  refine (Steps_any b _ [0, 5] 3 _ H4.out).mono ?_
  rintro e w5 ⟨rfl, rfl⟩
  go_wp2_with fail
  go_ret
  refine ⟨rfl, ((HC1.out.into hc2 ?_).into hc3 ?_).into hc4 ?_⟩
  · have := hg1 g rfl
    intro x hx
    simp at hx
    right
    rcases hx with rfl | rfl <;> assumption
  · intro x hx; simp at hx; subst hx; exact .inr hb1
  · intro x hx; simp at hx; subst hx; exact .inr hb1
end Go.Proofs.Ytihgljfiggdcpaa.mem
