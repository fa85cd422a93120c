/- Scripts: an act's line. -/
import Derived.Test.YtldbaommeflooaaDoorScrB
import Derived.Laws.Concat
import Derived.Lib.ItoaNum
import Derived.Lib.AppendIntMem
namespace Go.Proofs.YtldbaommeflooaaDoor.scr
open Go Go.RowKit Go.Proofs.YtldbaommeflooaaDoor.kit Go.Proofs.YtldbaommeflooaaDoor.word Go.Shelf
set_option linter.unusedVariables false
set_option linter.unusedSimpArgs false
set_option maxRecDepth 20000
/-- strconv's table lies where it was laid -/
def TabS (w : World) : Prop := Lib.TabIs Tryd.prog w "internal/strconv.uint64pow10" .u64 Lib.pow10Tab
theorem TabS.keep {W W' : World} (h : TabS W) (hc : Chg [] W W') : TabS W' := by
  unfold TabS Lib.TabIs World.var? at h ⊢
  cases hg : Tryd.prog.globalNamed "internal/strconv.uint64pow10" with
  | none => simp [hg] at h
  | some g =>
    simp only [hg, Option.bind_some] at h ⊢
    have hlt : g < W.heap.size := by
      rcases Nat.lt_or_ge g W.heap.size with h' | h'
      · exact h'
      · simp [Array.getElem?_eq_none h'] at h
    rw [hc.block g hlt (by simp)]
    exact h
def runW : List UInt8 := [114, 117, 110, 32]
def askW : List UInt8 := [97, 115, 107, 32]
def lineL (a : Ac) : List UInt8 := (if a.k = 1 then runW else askW) ++ Lib.itoa a.n
theorem nDigits_le : ∀ (k u : Nat), u < 10 ^ (k + 1) → Lib.nDigits u ≤ k + 1
  | 0, u, h => by rw [Lib.nDigits_small (by simpa using h)]; exact Nat.le_refl _
  | k + 1, u, h => by
    rcases Nat.lt_or_ge u 10 with h1 | h1
    · rw [Lib.nDigits_small h1]; omega
    · rw [Lib.nDigits_big (by omega)]
      have := nDigits_le k (u / 10) (by rw [Nat.pow_succ] at h; omega)
      omega
theorem itoa_len {n : Int} (h0 : 0 ≤ n) (h1 : n ≤ 65536) : (Lib.itoa n).length ≤ 5 := by
  unfold Lib.itoa
  rw [if_neg (by omega), Lib.decDigits_length]
  exact nDigits_le 4 _ (by omega)
theorem lineL_len {a : Ac} (h0 : 0 ≤ a.n) (h1 : a.n ≤ 65536) : (lineL a).length ≤ 9 := by
  have := itoa_len h0 h1
  unfold lineL runW askW
  split <;> simp <;> omega
set_option maxHeartbeats 2000000 in
theorem line_any (k n : Int) (h0 : 0 ≤ n) (h1 : n ≤ 65536) (W : World) (hT : TabS W) :
    Calls Tryd.prog 28 #[.agg #[.int .i64 k, .int .i64 n]] W fun e W' => e = .returned (strV (lineL ⟨k, n⟩)) ∧ Chg [] W W' := by
  have HT := Lib.hid hT
  have HI := Lib.hid (itoa_len h0 h1)
  have hit : ∀ w0, TabS w0 → Calls Tryd.prog 40 #[.int .i64 n] w0 fun e w' => e = .returned (strV (Lib.itoa n)) ∧ Chg [] w0 w' := fun w0 h => by
    refine (Tryd.strconv_Itoa n (by omega) (by omega) w0 h).mono ?_
    rintro e w' ⟨rfl, k, os, rfl⟩
    exact ⟨rfl, Chg.of_below (Lib.below_grow _ w0 (Nat.le_refl _) k os)⟩
  have HIT := Lib.hid hit
  clear hit hT
  obtain ⟨d, hd⟩ : ∃ d, Lib.itoa n = d := ⟨_, rfl⟩
  have e1 : (ByteArray.mk #[114, 117, 110, 32]) ++ (ByteArray.mk d.toArray) = ⟨(runW ++ d).toArray⟩ := ByteArray.mk_append_mk runW d
  have e2 : (ByteArray.mk #[97, 115, 107, 32]) ++ (ByteArray.mk d.toArray) = ⟨(askW ++ d).toArray⟩ := ByteArray.mk_append_mk askW d
  have hsz : d.length ≤ 5 := by rw [← hd]; exact HI.out
  have s1 : (ByteArray.mk #[114, 117, 110, 32]).size + (ByteArray.mk d.toArray).size ≤ 9223372036854775807 := by simp [ByteArray.size]; omega
  have s2 : (ByteArray.mk #[97, 115, 107, 32]).size + (ByteArray.mk d.toArray).size ≤ 9223372036854775807 := by simp [ByteArray.size]; omega
  have r1 := fun w => run_string_add_sum (P := Tryd.prog) (w := w) _ _ s1
  have r2 := fun w => run_string_add_sum (P := Tryd.prog) (w := w) _ _ s2
  rw [e1] at r1
  rw [e2] at r2
  have HRES : Hid (lineL ⟨k, n⟩ = if k = 1 then runW ++ d else askW ++ d) := Lib.hid (by unfold lineL; rw [hd]; split <;> rfl)
  rw [hd] at HIT
  clear s1 s2 e1 e2 hsz hd h0 h1
  by_cases c1 : k = 1
  · subst c1
    go_enter Tryd.func28, Tryd.ntmps28
    go_wp2_with (go_at_call 40; refine (HIT.out _ (HT.out.keep ((Chg.refl _ _).alloc _))).mono ?_; rintro e w' ⟨rfl, hcg⟩)
    go_ret
    exact ⟨by rw [HRES.out]; rfl, ((Chg.refl _ _).alloc _).trans hcg⟩
  · have c1' : (k == 1) = false := by simpa using c1
    rw [if_neg c1] at HRES
    clear c1
    go_enter Tryd.func28, Tryd.ntmps28
    go_wp2_with (go_at_call 40; refine (HIT.out _ (HT.out.keep ((Chg.refl _ _).alloc _))).mono ?_; rintro e w' ⟨rfl, hcg⟩)
    go_ret
    exact ⟨by rw [HRES.out]; rfl, ((Chg.refl _ _).alloc _).trans hcg⟩
end Go.Proofs.YtldbaommeflooaaDoor.scr
