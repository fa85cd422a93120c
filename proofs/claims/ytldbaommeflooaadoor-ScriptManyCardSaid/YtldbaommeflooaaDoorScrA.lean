/- Scripts: acts in memory; one, Ticks, Right (printed by scr1.py). -/
import Derived.Test.YtldbaommeflooaaDoorKit
import Derived.Test.YtldbaommeflooaaDoorOpen
import Derived.Test.YtldbaommeflooaaDoorWordWalks
import Derived.Deep.Cut
import Derived.Deep.CutBlock
namespace Go.Proofs.YtldbaommeflooaaDoor.scr
open Go Go.RowKit Go.Proofs.YtldbaommeflooaaDoor.kit Go.Proofs.YtldbaommeflooaaDoor.word
set_option linter.unusedVariables false
set_option linter.unusedSimpArgs false
set_option maxRecDepth 20000
structure Ac where
  k : Int
  n : Int
deriving DecidableEq
def Ac.cells (a : Ac) : List Value := [.int .i64 a.k, .int .i64 a.n]
abbrev Ac.val (a : Ac) : Value := .agg #[.int .i64 a.k, .int .i64 a.n]
def i64B (x : Int) : Prop := -9223372036854775808 ≤ x ∧ x ≤ 9223372036854775807
def Ac.ok (a : Ac) : Prop := i64B a.k ∧ i64B a.n
def ReadsA (w : World) (v : Value) (l : List Ac) : Prop := Reads w 2 v l.length (l.flatMap Ac.cells) ∧ ∀ a ∈ l, a.ok
theorem ReadsA.fresh {w w' : World} {v : Value} {l : List Ac} (h : ReadsA w v l) (k : Chg [] w w') : ReadsA w' v l := ⟨h.1.fresh k, h.2⟩
theorem szAct : (Tryd.prog.info? 43).map (·.size) = some 2 := by kernel_rfl
theorem cellsAct : Tryd.prog.cellsOf 43 = 2 := by kernel_rfl
def addT (a b : Int) : Int := inside (inside a + inside b)
def tickS (n : Int) (a : Ac) : Int := if a.k = 1 then addT n a.n else n
def ticks (l : List Ac) : Int := l.foldl tickS 0
def oneB (a : Ac) : Bool := (decide (a.k = 1) && (decide (0 ≤ a.n) && decide (a.n ≤ 65536))) || (decide (a.k = 2) && (decide (0 ≤ a.n) && decide (a.n < 8)))
def rightA (l : List Ac) : Bool := l.all oneB && (decide ((l.length : Int) ≤ 1000) && decide (ticks l ≤ 65536))
theorem all_not {R : Type} {p : R → Bool} {l : List R} {j : Nat} {t : R} (h : l[j]? = some t) (hp : p t = false) : l.all p = false := by
  rw [List.all_eq_false]
  exact ⟨t, List.mem_of_getElem? h, by simp [hp]⟩
theorem take_all {R : Type} {p : R → Bool} {l : List R} {j : Nat} {t : R} (ha : (l.take j).all p = true) (h : l[j]? = some t) (hp : p t = true) : (l.take (j + 1)).all p = true := by
  have hj := List.getElem?_eq_some_iff.1 h
  rw [List.take_succ_eq_append_getElem hj.1, List.all_append, ha, hj.2]
  simp [hp]
theorem take_foldl {R S : Type} (f : S → R → S) (s : S) {l : List R} {j : Nat} {t : R} (h : l[j]? = some t) : (l.take (j + 1)).foldl f s = f ((l.take j).foldl f s) t := by
  have hj := List.getElem?_eq_some_iff.1 h
  rw [List.take_succ_eq_append_getElem hj.1, List.foldl_append, hj.2]
  rfl
set_option maxHeartbeats 2000000 in
theorem one_any (k n : Int) (W : World) :
    Calls Tryd.prog 24 #[.agg #[.int .i64 k, .int .i64 n]] W fun e W' => e = .returned (.bool (oneB ⟨k, n⟩)) ∧ Chg [] W W' := by
  obtain ⟨R, hR⟩ : ∃ R, oneB ⟨k, n⟩ = R := ⟨_, rfl⟩
  rw [hR]
  unfold oneB at hR
  simp only at hR
  by_cases k1 : k = 1
  · subst k1
    by_cases n0 : 0 ≤ n
    · by_cases n1 : n ≤ 65536
      · obtain rfl : true = R := by rw [← hR]; simp [n0, n1]
        clear hR
        have m1 : ¬ (65536 < n) := by omega
        have m0 : ¬ (n < 0) := by omega
        go_enter Tryd.func24, Tryd.ntmps24
        go_wp2_with fail
        go_ret
        exact ⟨rfl, (Chg.refl _ _).alloc _⟩
      · obtain rfl : false = R := by rw [← hR]; simp [n1]
        clear hR
        have m1 : 65536 < n := by omega
        have m0 : ¬ (n < 0) := by omega
        go_enter Tryd.func24, Tryd.ntmps24
        go_wp2_with fail
        go_ret
        exact ⟨rfl, (Chg.refl _ _).alloc _⟩
    · obtain rfl : false = R := by rw [← hR]; simp [n0]
      clear hR
      have m0 : n < 0 := by omega
      go_enter Tryd.func24, Tryd.ntmps24
      go_wp2_with fail
      go_ret
      exact ⟨rfl, (Chg.refl _ _).alloc _⟩
  · have d1 : (k == 1) = false := by simpa using k1
    by_cases k2 : k = 2
    · subst k2
      by_cases n0 : 0 ≤ n
      · by_cases n1 : n ≤ 7
        · obtain rfl : true = R := by rw [← hR]; simp [n0]; omega
          clear hR
          have m1 : n < 8 := by omega
          have m2 : ¬ (7 < n) := by omega
          have m3 : ¬ (8 ≤ n) := by omega
          have m0 : ¬ (n < 0) := by omega
          go_enter Tryd.func24, Tryd.ntmps24
          go_wp2_with fail
          go_ret
          exact ⟨rfl, (Chg.refl _ _).alloc _⟩
        · obtain rfl : false = R := by rw [← hR]; simp; omega
          clear hR
          have m1 : ¬ (n < 8) := by omega
          have m2 : 7 < n := by omega
          have m3 : 8 ≤ n := by omega
          have m0 : ¬ (n < 0) := by omega
          go_enter Tryd.func24, Tryd.ntmps24
          go_wp2_with fail
          go_ret
          exact ⟨rfl, (Chg.refl _ _).alloc _⟩
      · obtain rfl : false = R := by rw [← hR]; simp [n0]
        clear hR
        have m0 : n < 0 := by omega
        go_enter Tryd.func24, Tryd.ntmps24
        go_wp2_with fail
        go_ret
        exact ⟨rfl, (Chg.refl _ _).alloc _⟩
    · obtain rfl : false = R := by rw [← hR]; simp [k1, k2]
      have d2 : (k == 2) = false := by simpa using k2
      clear hR
      go_enter Tryd.func24, Tryd.ntmps24
      go_wp2_with fail
      go_ret
      exact ⟨rfl, (Chg.refl _ _).alloc _⟩
set_option maxHeartbeats 2000000 in
theorem Ticks_any (la : Option Addr) (lc : Nat) (l : List Ac) (W : World) (h : ReadsA W (.slice la l.length lc) l) :
    Calls Tryd.prog 9 #[.slice la l.length lc] W fun e W' => e = .returned (.int .i64 (ticks l)) ∧ Chg [] W W' := by
  obtain ⟨b1, o1, hx1, hc1, -⟩ := reads_index (P := Tryd.prog) Tryd.underlying22 szAct h.1
  have HX1 := Lib.hid hx1
  have HC1 := Lib.hid hc1
  have HLE : Hid (l.length ≤ 9223372036854775807) := Lib.hid (by have := h.1.le; unfold maxLen at this; exact this)
  clear hx1 hc1 h
  go_enter Tryd.func9, Tryd.ntmps9
  go_wp2_with fail
  go_loopw [3, 8] (fun t i wr => ∃ j : Nat, j ≤ l.length ∧ i = .int .i64 j ∧ t = .int .i64 ((l.take j).foldl tickS 0) ∧ Hid (Chg [] W wr)) (fun _ i _ => l.length - (intOf i).toNat)
  case atStart => exact ⟨0, Nat.zero_le _, rfl, rfl, Lib.hid (Chg.refl _ _)⟩
  case round =>
    obtain ⟨j, hj, rfl, rfl, HJ⟩ := hrel
    by_cases hlt : j < l.length
    · have HLT := Lib.hid hlt
      have g1 := HX1.out j hlt
      obtain ⟨⟨k, n⟩, htk⟩ : ∃ t, l[j]? = some t := ⟨_, List.getElem?_eq_getElem hlt⟩
      have q0 := HJ.out.keep (HC1.out (j * 2 + 0) _ (by rw [flatMap_get Ac.cells 2 (fun _ => rfl) l j 0 (by decide) _ htk]; rfl)) (by simp)
      have q1 := HJ.out.keep (HC1.out (j * 2 + 1) _ (by rw [flatMap_get Ac.cells 2 (fun _ => rfl) l j 1 (by decide) _ htk]; rfl)) (by simp)
      rw [Nat.add_zero] at q0
      rw [← Nat.add_assoc] at q1
      have HS := Lib.hid (take_foldl tickS 0 htk)
      have hj63 : (j : Int) < 9223372036854775807 := by have := HLE.out; omega
      have k8 : IntKind.i64.wrap ((j : Int) + 1) = (j : Int) + 1 := by rw [IntKind.wrap_i64]; omega
      obtain ⟨t, ht⟩ : ∃ t, (l.take j).foldl tickS 0 = t := ⟨_, rfl⟩
      rw [ht] at HS
      rw [ht]
      clear htk hj hlt ht hj63
      by_cases c1 : k = 1
      · subst c1
        go_wp2_with (go_at_call 22; refine (Add_any _ _ _).mono ?_; rintro e w' ⟨rfl, rfl⟩)
        have hltj := HLT.out
        go_roundw
        case rel => exact ⟨j + 1, by omega, by go_num, by rw [HS.out]; rfl, Lib.hid (HJ.out.alloc _)⟩
        case measure => simp [intOf]; omega
      · have c1' : (k == 1) = false := by simpa using c1
        have HCK := Lib.hid c1
        clear c1
        go_wp2_with fail
        have hltj := HLT.out
        go_roundw
        case rel => exact ⟨j + 1, by omega, by go_num, by rw [HS.out]; unfold tickS; rw [if_neg HCK.out], Lib.hid (HJ.out.alloc _)⟩
        case measure => simp [intOf]; omega
    · obtain rfl : l.length = j := by omega
      clear hlt hj
      rw [List.take_length]
      go_wp2_with fail
      go_ret
      exact ⟨rfl, HJ.out⟩
set_option maxHeartbeats 2000000 in
theorem Right_any (la : Option Addr) (lc : Nat) (l : List Ac) (W : World) (h : ReadsA W (.slice la l.length lc) l) :
    Calls Tryd.prog 11 #[.slice la l.length lc] W fun e W' => e = .returned (.bool (rightA l)) ∧ Chg [] W W' := by
  obtain ⟨R, hR⟩ : ∃ R, rightA l = R := ⟨_, rfl⟩
  have HR := Lib.hid hR
  rw [hR]
  obtain ⟨b1, o1, hx1, hc1, -⟩ := reads_index (P := Tryd.prog) Tryd.underlying22 szAct h.1
  have HX1 := Lib.hid hx1
  have HC1 := Lib.hid hc1
  have HLE : Hid (l.length ≤ 9223372036854775807) := Lib.hid (by have := h.1.le; unfold maxLen at this; exact this)
  have HRA := Lib.hid h
  clear hx1 hc1 h hR
  go_enter Tryd.func11, Tryd.ntmps11
  go_wp2_with fail
  go_loopw [7] (fun i wr => ∃ j : Nat, j ≤ l.length ∧ i = .int .i64 j ∧ Hid ((l.take j).all oneB = true) ∧ Hid (Chg [] W wr)) (fun i _ => l.length - (intOf i).toNat)
  case atStart => exact ⟨0, Nat.zero_le _, rfl, Lib.hid rfl, Lib.hid (Chg.refl _ _)⟩
  case round =>
    obtain ⟨j, hj, rfl, HG, HJ⟩ := hrel
    by_cases hlt : j < l.length
    · have HLT := Lib.hid hlt
      have g1 := HX1.out j hlt
      obtain ⟨⟨k, n⟩, htk⟩ : ∃ t, l[j]? = some t := ⟨_, List.getElem?_eq_getElem hlt⟩
      have q0 := HJ.out.keep (HC1.out (j * 2 + 0) _ (by rw [flatMap_get Ac.cells 2 (fun _ => rfl) l j 0 (by decide) _ htk]; rfl)) (by simp)
      have q1 := HJ.out.keep (HC1.out (j * 2 + 1) _ (by rw [flatMap_get Ac.cells 2 (fun _ => rfl) l j 1 (by decide) _ htk]; rfl)) (by simp)
      rw [Nat.add_zero] at q0
      rw [← Nat.add_assoc] at q1
      have HK := Lib.hid htk
      have hj63 : (j : Int) < 9223372036854775807 := by have := HLE.out; omega
      have k8 : IntKind.i64.wrap ((j : Int) + 1) = (j : Int) + 1 := by rw [IntKind.wrap_i64]; omega
      clear htk hj hlt hj63
      cases hone : oneB ⟨k, n⟩
      · obtain rfl : false = R := by rw [← HR.out]; unfold rightA; rw [all_not HK.out hone]; rfl
        go_wp2_with (go_at_call 24; refine (one_any _ _ _).mono ?_; rintro e w' ⟨rfl, hcg⟩; rw [hone])
        go_ret
        exact ⟨rfl, (HJ.out.alloc _).trans hcg⟩
      · go_wp2_with (go_at_call 24; refine (one_any _ _ _).mono ?_; rintro e w' ⟨rfl, hcg⟩; rw [hone])
        have hltj := HLT.out
        go_roundw
        case rel => exact ⟨j + 1, by omega, by go_num, Lib.hid (take_all HG.out HK.out hone), Lib.hid ((HJ.out.alloc _).trans hcg)⟩
        case measure => simp [intOf]; omega
    · obtain rfl : l.length = j := by omega
      clear hlt hj
      have hall : l.all oneB = true := by have := HG.out; rwa [List.take_length] at this
      by_cases c1 : (l.length : Int) ≤ 1000
      · have hr : decide (ticks l ≤ 65536) = R := by rw [← HR.out]; unfold rightA; rw [hall]; simp [c1]
        subst hr
        have m1 : ¬ (1000 < (l.length : Int)) := by omega
        have HHJ := HJ
        go_wp2_with (go_at_call 9; refine (Ticks_any _ _ _ _ (HRA.out.fresh HHJ.out)).mono ?_; rintro e w' ⟨rfl, hcg⟩)
        all_goals go_ret
        all_goals first | exact ⟨rfl, HHJ.out.trans hcg⟩ | (refine ⟨?_, HHJ.out.trans hcg⟩; simp_all)
      · obtain rfl : false = R := by rw [← HR.out]; unfold rightA; simp [c1]
        have m1 : 1000 < (l.length : Int) := by omega
        go_wp2_with fail
        go_ret
        exact ⟨rfl, HJ.out⟩
set_option maxHeartbeats 2000000 in
theorem rone_any (k n : Int) (W : World) :
    Calls Tryd.prog 25 #[.agg #[.int .i64 k, .int .i64 n]] W fun e W' => e = .returned (.bool (oneB ⟨k, n⟩)) ∧ Chg [] W W' := by
  obtain ⟨R, hR⟩ : ∃ R, oneB ⟨k, n⟩ = R := ⟨_, rfl⟩
  rw [hR]
  unfold oneB at hR
  simp only at hR
  by_cases k1 : k = 1
  · subst k1
    by_cases n0 : 0 ≤ n
    · by_cases n1 : n ≤ 65536
      · obtain rfl : true = R := by rw [← hR]; simp [n0, n1]
        clear hR
        have m1 : ¬ (65536 < n) := by omega
        have m0 : ¬ (n < 0) := by omega
        go_enter Tryd.func25, Tryd.ntmps25
        go_wp2_with fail
        go_ret
        exact ⟨rfl, (Chg.refl _ _).alloc _⟩
      · obtain rfl : false = R := by rw [← hR]; simp [n1]
        clear hR
        have m1 : 65536 < n := by omega
        have m0 : ¬ (n < 0) := by omega
        go_enter Tryd.func25, Tryd.ntmps25
        go_wp2_with fail
        go_ret
        exact ⟨rfl, (Chg.refl _ _).alloc _⟩
    · obtain rfl : false = R := by rw [← hR]; simp [n0]
      clear hR
      have m0 : n < 0 := by omega
      go_enter Tryd.func25, Tryd.ntmps25
      go_wp2_with fail
      go_ret
      exact ⟨rfl, (Chg.refl _ _).alloc _⟩
  · have d1 : (k == 1) = false := by simpa using k1
    by_cases k2 : k = 2
    · subst k2
      by_cases n0 : 0 ≤ n
      · by_cases n1 : n ≤ 7
        · obtain rfl : true = R := by rw [← hR]; simp [n0]; omega
          clear hR
          have m1 : n < 8 := by omega
          have m2 : ¬ (7 < n) := by omega
          have m3 : ¬ (8 ≤ n) := by omega
          have m0 : ¬ (n < 0) := by omega
          go_enter Tryd.func25, Tryd.ntmps25
          go_wp2_with fail
          go_ret
          exact ⟨rfl, (Chg.refl _ _).alloc _⟩
        · obtain rfl : false = R := by rw [← hR]; simp; omega
          clear hR
          have m1 : ¬ (n < 8) := by omega
          have m2 : 7 < n := by omega
          have m3 : 8 ≤ n := by omega
          have m0 : ¬ (n < 0) := by omega
          go_enter Tryd.func25, Tryd.ntmps25
          go_wp2_with fail
          go_ret
          exact ⟨rfl, (Chg.refl _ _).alloc _⟩
      · obtain rfl : false = R := by rw [← hR]; simp [n0]
        clear hR
        have m0 : n < 0 := by omega
        go_enter Tryd.func25, Tryd.ntmps25
        go_wp2_with fail
        go_ret
        exact ⟨rfl, (Chg.refl _ _).alloc _⟩
    · obtain rfl : false = R := by rw [← hR]; simp [k1, k2]
      have d2 : (k == 2) = false := by simpa using k2
      clear hR
      go_enter Tryd.func25, Tryd.ntmps25
      go_wp2_with fail
      go_ret
      exact ⟨rfl, (Chg.refl _ _).alloc _⟩
set_option maxHeartbeats 2000000 in
theorem rTicks_any (la : Option Addr) (lc : Nat) (l : List Ac) (W : World) (h : ReadsA W (.slice la l.length lc) l) :
    Calls Tryd.prog 10 #[.slice la l.length lc] W fun e W' => e = .returned (.int .i64 (ticks l)) ∧ Chg [] W W' := by
  obtain ⟨b1, o1, hx1, hc1, -⟩ := reads_index (P := Tryd.prog) Tryd.underlying22 szAct h.1
  have HX1 := Lib.hid hx1
  have HC1 := Lib.hid hc1
  have HLE : Hid (l.length ≤ 9223372036854775807) := Lib.hid (by have := h.1.le; unfold maxLen at this; exact this)
  clear hx1 hc1 h
  go_enter Tryd.func10, Tryd.ntmps10
  go_wp2_with fail
  go_loopw [3, 8] (fun t i wr => ∃ j : Nat, j ≤ l.length ∧ i = .int .i64 j ∧ t = .int .i64 ((l.take j).foldl tickS 0) ∧ Hid (Chg [] W wr)) (fun _ i _ => l.length - (intOf i).toNat)
  case atStart => exact ⟨0, Nat.zero_le _, rfl, rfl, Lib.hid (Chg.refl _ _)⟩
  case round =>
    obtain ⟨j, hj, rfl, rfl, HJ⟩ := hrel
    by_cases hlt : j < l.length
    · have HLT := Lib.hid hlt
      have g1 := HX1.out j hlt
      obtain ⟨⟨k, n⟩, htk⟩ : ∃ t, l[j]? = some t := ⟨_, List.getElem?_eq_getElem hlt⟩
      have q0 := HJ.out.keep (HC1.out (j * 2 + 0) _ (by rw [flatMap_get Ac.cells 2 (fun _ => rfl) l j 0 (by decide) _ htk]; rfl)) (by simp)
      have q1 := HJ.out.keep (HC1.out (j * 2 + 1) _ (by rw [flatMap_get Ac.cells 2 (fun _ => rfl) l j 1 (by decide) _ htk]; rfl)) (by simp)
      rw [Nat.add_zero] at q0
      rw [← Nat.add_assoc] at q1
      have HS := Lib.hid (take_foldl tickS 0 htk)
      have hj63 : (j : Int) < 9223372036854775807 := by have := HLE.out; omega
      have k8 : IntKind.i64.wrap ((j : Int) + 1) = (j : Int) + 1 := by rw [IntKind.wrap_i64]; omega
      obtain ⟨t, ht⟩ : ∃ t, (l.take j).foldl tickS 0 = t := ⟨_, rfl⟩
      rw [ht] at HS
      rw [ht]
      clear htk hj hlt ht hj63
      by_cases c1 : k = 1
      · subst c1
        go_wp2_with (go_at_call 23; refine (rAdd_any _ _ _).mono ?_; rintro e w' ⟨rfl, rfl⟩)
        have hltj := HLT.out
        go_roundw
        case rel => exact ⟨j + 1, by omega, by go_num, by rw [HS.out]; rfl, Lib.hid (HJ.out.alloc _)⟩
        case measure => simp [intOf]; omega
      · have c1' : (k == 1) = false := by simpa using c1
        have HCK := Lib.hid c1
        clear c1
        go_wp2_with fail
        have hltj := HLT.out
        go_roundw
        case rel => exact ⟨j + 1, by omega, by go_num, by rw [HS.out]; unfold tickS; rw [if_neg HCK.out], Lib.hid (HJ.out.alloc _)⟩
        case measure => simp [intOf]; omega
    · obtain rfl : l.length = j := by omega
      clear hlt hj
      rw [List.take_length]
      go_wp2_with fail
      go_ret
      exact ⟨rfl, HJ.out⟩
set_option maxHeartbeats 2000000 in
theorem rRight_any (la : Option Addr) (lc : Nat) (l : List Ac) (W : World) (h : ReadsA W (.slice la l.length lc) l) :
    Calls Tryd.prog 12 #[.slice la l.length lc] W fun e W' => e = .returned (.bool (rightA l)) ∧ Chg [] W W' := by
  obtain ⟨R, hR⟩ : ∃ R, rightA l = R := ⟨_, rfl⟩
  have HR := Lib.hid hR
  rw [hR]
  obtain ⟨b1, o1, hx1, hc1, -⟩ := reads_index (P := Tryd.prog) Tryd.underlying22 szAct h.1
  have HX1 := Lib.hid hx1
  have HC1 := Lib.hid hc1
  have HLE : Hid (l.length ≤ 9223372036854775807) := Lib.hid (by have := h.1.le; unfold maxLen at this; exact this)
  have HRA := Lib.hid h
  clear hx1 hc1 h hR
  go_enter Tryd.func12, Tryd.ntmps12
  go_wp2_with fail
  go_loopw [7] (fun i wr => ∃ j : Nat, j ≤ l.length ∧ i = .int .i64 j ∧ Hid ((l.take j).all oneB = true) ∧ Hid (Chg [] W wr)) (fun i _ => l.length - (intOf i).toNat)
  case atStart => exact ⟨0, Nat.zero_le _, rfl, Lib.hid rfl, Lib.hid (Chg.refl _ _)⟩
  case round =>
    obtain ⟨j, hj, rfl, HG, HJ⟩ := hrel
    by_cases hlt : j < l.length
    · have HLT := Lib.hid hlt
      have g1 := HX1.out j hlt
      obtain ⟨⟨k, n⟩, htk⟩ : ∃ t, l[j]? = some t := ⟨_, List.getElem?_eq_getElem hlt⟩
      have q0 := HJ.out.keep (HC1.out (j * 2 + 0) _ (by rw [flatMap_get Ac.cells 2 (fun _ => rfl) l j 0 (by decide) _ htk]; rfl)) (by simp)
      have q1 := HJ.out.keep (HC1.out (j * 2 + 1) _ (by rw [flatMap_get Ac.cells 2 (fun _ => rfl) l j 1 (by decide) _ htk]; rfl)) (by simp)
      rw [Nat.add_zero] at q0
      rw [← Nat.add_assoc] at q1
      have HK := Lib.hid htk
      have hj63 : (j : Int) < 9223372036854775807 := by have := HLE.out; omega
      have k8 : IntKind.i64.wrap ((j : Int) + 1) = (j : Int) + 1 := by rw [IntKind.wrap_i64]; omega
      clear htk hj hlt hj63
      cases hone : oneB ⟨k, n⟩
      · obtain rfl : false = R := by rw [← HR.out]; unfold rightA; rw [all_not HK.out hone]; rfl
        go_wp2_with (go_at_call 25; refine (rone_any _ _ _).mono ?_; rintro e w' ⟨rfl, hcg⟩; rw [hone])
        go_ret
        exact ⟨rfl, (HJ.out.alloc _).trans hcg⟩
      · go_wp2_with (go_at_call 25; refine (rone_any _ _ _).mono ?_; rintro e w' ⟨rfl, hcg⟩; rw [hone])
        have hltj := HLT.out
        go_roundw
        case rel => exact ⟨j + 1, by omega, by go_num, Lib.hid (take_all HG.out HK.out hone), Lib.hid ((HJ.out.alloc _).trans hcg)⟩
        case measure => simp [intOf]; omega
    · obtain rfl : l.length = j := by omega
      clear hlt hj
      have hall : l.all oneB = true := by have := HG.out; rwa [List.take_length] at this
      by_cases c1 : (l.length : Int) ≤ 1000
      · have hr : decide (ticks l ≤ 65536) = R := by rw [← HR.out]; unfold rightA; rw [hall]; simp [c1]
        subst hr
        have m1 : ¬ (1000 < (l.length : Int)) := by omega
        have HHJ := HJ
        go_wp2_with (go_at_call 10; refine (rTicks_any _ _ _ _ (HRA.out.fresh HHJ.out)).mono ?_; rintro e w' ⟨rfl, hcg⟩)
        all_goals go_ret
        all_goals first | exact ⟨rfl, HHJ.out.trans hcg⟩ | (refine ⟨?_, HHJ.out.trans hcg⟩; simp_all)
      · obtain rfl : false = R := by rw [← HR.out]; unfold rightA; simp [c1]
        have m1 : 1000 < (l.length : Int) := by omega
        go_wp2_with fail
        go_ret
        exact ⟨rfl, HJ.out⟩
end Go.Proofs.YtldbaommeflooaaDoor.scr
