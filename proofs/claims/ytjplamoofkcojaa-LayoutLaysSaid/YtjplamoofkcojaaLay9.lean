/- Layouts: two regions apart; two layouts that are the same. -/
import Derived.Test.YtjplamoofkcojaaLay7
import Derived.Test.YtjplamoofkcojaaFew
import Derived.Deep.QuietTactic
import Derived.BigQuiet
namespace Go.Proofs.Ytjplamoofkcojaa.lay
open Go Go.RowKit Go.Proofs.Ytjplamoofkcojaa.kit Go.Proofs.Ytjplamoofkcojaa.obj Go.Proofs.Ytjplamoofkcojaa.mem Go.Proofs.Ytjplamoofkcojaa.core
set_option linter.unusedVariables false
set_option linter.unusedSimpArgs false
set_option maxRecDepth 20000
/-- two regions, the second one behind the first one -/
theorem Apart_ok (a b : Int × Int) (W : World) (ha : 0 ≤ a.1 ∧ 1 ≤ a.2 ∧ a.1 + a.2 ≤ b.1 ∧ b.1 ≤ 1000000 ∧ 1 ≤ b.2 ∧ b.2 ≤ 1000000) :
    Calls Try.prog 24 #[.agg #[.int .i64 a.1, .int .i64 a.2], .agg #[.int .i64 b.1, .int .i64 b.2]] W fun e W' => e = .returned (.bool true) ∧ Chg [] W W' := by
  obtain ⟨a0, a1⟩ := a
  obtain ⟨b0, b1⟩ := b
  dsimp only at *
  have h1 : ¬ a0 < 0 := by omega
  have h2 : ¬ a1 < 0 := by omega
  have h3 : ¬ b0 < 0 := by omega
  have h4 : ¬ b1 < 0 := by omega
  have h5 : (a1 == 0) = false := by simp; omega
  have h6 : (b1 == 0) = false := by simp; omega
  have h7 : ¬ b0 < a0 := by omega
  have h8 : a1 ≤ b0 - a0 := by omega
  go_enter Try.func24, Try.ntmps24
  go_wp2_with fail
  go_ret
  exact ⟨rfl, ((Chg.refl _ _).alloc _).alloc _⟩
set_option maxHeartbeats 4000000 in
theorem Same_ok (a1 : Option Addr) (c1 : Nat) (a2 : Option Addr) (c2 : Nat) (a3 : Option Addr) (c3 : Nat) (a4 : Option Addr) (c4 : Nat) (sz : Int) (rs qs : List (Int × Int)) (W : World) (h1 : Reads W 2 (.slice a1 rs.length c1) rs.length (rs.flatMap rcells)) (h2 : Reads W 2 (.slice a2 qs.length c2) qs.length (qs.flatMap rcells)) (h3 : Reads W 2 (.slice a3 rs.length c3) rs.length (rs.flatMap rcells)) (h4 : Reads W 2 (.slice a4 qs.length c4) qs.length (qs.flatMap rcells)) (hl : rs.length ≤ 1000 ∧ qs.length ≤ 1000) :
    Calls Try.prog 23 #[.agg #[.slice a1 rs.length c1, .slice a2 qs.length c2, .int .i64 sz], .agg #[.slice a3 rs.length c3, .slice a4 qs.length c4, .int .i64 sz]] W fun e W' => e = .returned (.bool true) ∧ Chg [] W W' := by
  obtain ⟨b1, o1, hx1, hc1, -⟩ := reads_index (P := Try.prog) Try.underlying51 szReg h1
  obtain ⟨b2, o2, hx2, hc2, -⟩ := reads_index (P := Try.prog) Try.underlying51 szReg h2
  obtain ⟨b3, o3, hx3, hc3, -⟩ := reads_index (P := Try.prog) Try.underlying51 szReg h3
  obtain ⟨b4, o4, hx4, hc4, -⟩ := reads_index (P := Try.prog) Try.underlying51 szReg h4
  have HX1 := Lib.hid hx1
  have HE1 := Lib.hid hc1
  have HX2 := Lib.hid hx2
  have HE2 := Lib.hid hc2
  have HX3 := Lib.hid hx3
  have HE3 := Lib.hid hc3
  have HX4 := Lib.hid hx4
  have HE4 := Lib.hid hc4
  have HML := Lib.hid hl
  have HCA : Hid (Chg [] W ((W.alloc (.cells #[.slice a1 rs.length c1, .slice a2 qs.length c2, .int .i64 sz] 53)).alloc (.cells #[.slice a3 rs.length c3, .slice a4 qs.length c4, .int .i64 sz] 53))) := Lib.hid (((Chg.refl _ _).alloc _).alloc _)
  have HBX : Hid (Blk ((W.alloc (.cells #[.slice a1 rs.length c1, .slice a2 qs.length c2, .int .i64 sz] 53)).alloc (.cells #[.slice a3 rs.length c3, .slice a4 qs.length c4, .int .i64 sz] 53)) W.heap.size #[.slice a1 rs.length c1, .slice a2 qs.length c2, .int .i64 sz] 53) := Lib.hid ((Blk.new W _ _).alloc _)
  have HBY : Hid (Blk ((W.alloc (.cells #[.slice a1 rs.length c1, .slice a2 qs.length c2, .int .i64 sz] 53)).alloc (.cells #[.slice a3 rs.length c3, .slice a4 qs.length c4, .int .i64 sz] 53)) (W.heap.size + 1) #[.slice a3 rs.length c3, .slice a4 qs.length c4, .int .i64 sz] 53) := Lib.hid (by have := Blk.new (W.alloc (.cells #[.slice a1 rs.length c1, .slice a2 qs.length c2, .int .i64 sz] 53)) #[.slice a3 rs.length c3, .slice a4 qs.length c4, .int .i64 sz] 53; rwa [show (W.alloc (.cells #[.slice a1 rs.length c1, .slice a2 qs.length c2, .int .i64 sz] 53)).heap.size = W.heap.size + 1 by simp] at this)
  clear hx1 hx2 hx3 hx4 hc1 hc2 hc3 hc4 h1 h2 h3 h4 hl
  go_enter Try.func23, Try.ntmps23
  go_wp2_with fail
  go_loopw [33] (fun i wr => ∃ j : Nat, j ≤ rs.length ∧ i = .int .i64 j ∧ Hid (Chg [] ((W.alloc (.cells #[.slice a1 rs.length c1, .slice a2 qs.length c2, .int .i64 sz] 53)).alloc (.cells #[.slice a3 rs.length c3, .slice a4 qs.length c4, .int .i64 sz] 53)) wr)) (fun i _ => rs.length - (intOf i).toNat)
  case atStart => exact ⟨0, Nat.zero_le _, rfl, Lib.hid (Chg.refl _ _)⟩
  case round =>
    skip
    obtain ⟨j, hj, rfl, HJ⟩ := hrel
    by_cases hlt : j < rs.length
    · have HLT := Lib.hid hlt
      have g1 := HX1.out j hlt
      have g2 := HX3.out j hlt
      obtain ⟨⟨r0, r1⟩, hrk⟩ : ∃ r, rs[j]? = some r := ⟨_, List.getElem?_eq_getElem hlt⟩
      have p0 := (HCA.out.trans HJ.out).keep (HE1.out (j * 2 + 0) _ (by rw [flatMap_get rcells 2 (fun _ => rfl) rs j 0 (by decide) _ hrk]; rfl)) (by simp)
      have p1 := (HCA.out.trans HJ.out).keep (HE1.out (j * 2 + 1) _ (by rw [flatMap_get rcells 2 (fun _ => rfl) rs j 1 (by decide) _ hrk]; rfl)) (by simp)
      rw [Nat.add_zero] at p0
      rw [← Nat.add_assoc] at p1
      have q0 := (HCA.out.trans HJ.out).keep (HE3.out (j * 2 + 0) _ (by rw [flatMap_get rcells 2 (fun _ => rfl) rs j 0 (by decide) _ hrk]; rfl)) (by simp)
      have q1 := (HCA.out.trans HJ.out).keep (HE3.out (j * 2 + 1) _ (by rw [flatMap_get rcells 2 (fun _ => rfl) rs j 1 (by decide) _ hrk]; rfl)) (by simp)
      rw [Nat.add_zero] at q0
      rw [← Nat.add_assoc] at q1
      have e0 := (HBX.out.keep HJ.out (by simp)).cell (o := 0) rfl
      have f0 := (HBY.out.keep HJ.out (by simp)).cell (o := 0) rfl
      have hj1000 : (j : Int) < 1000 := by have := HML.out; omega
      have hj0 : (0 : Int) ≤ (j : Int) := by omega
      have hjl : (j : Int) < (rs.length : Int) := by omega
      clear hrk hlt hj
      go_wp2_with fail
      go_quiet (fail)
      have k8 : IntKind.i64.wrap ((j : Int) + 1) = (j : Int) + 1 := by rw [IntKind.wrap_i64]; omega
      go_wp2_with fail
      have hltj := HLT.out
      go_roundw
      case rel => exact ⟨j + 1, by omega, by go_num, Lib.hid (HJ.out.drewN _)⟩
      case measure => simp [intOf]; omega
    · obtain rfl : rs.length = j := by omega
      clear hlt hj
      have e1 := (HBX.out.keep HJ.out (by simp)).cell (o := 1) rfl
      obtain ⟨wo, rfl⟩ : ∃ wo : World, wo = wr := ⟨_, rfl⟩
      go_wp2_with fail
      go_loopw [51] (fun i wr => ∃ j : Nat, j ≤ qs.length ∧ i = .int .i64 j ∧ Hid (Chg [] ((W.alloc (.cells #[.slice a1 rs.length c1, .slice a2 qs.length c2, .int .i64 sz] 53)).alloc (.cells #[.slice a3 rs.length c3, .slice a4 qs.length c4, .int .i64 sz] 53)) wr)) (fun i _ => qs.length - (intOf i).toNat)
      case atStart => exact ⟨0, Nat.zero_le _, rfl, HJ⟩
      case round =>
        clear HJ e1
        obtain ⟨j, hj, rfl, HJ⟩ := hrel
        by_cases hlt : j < qs.length
        · have HLT := Lib.hid hlt
          have g1 := HX2.out j hlt
          have g2 := HX4.out j hlt
          obtain ⟨⟨r0, r1⟩, hrk⟩ : ∃ r, qs[j]? = some r := ⟨_, List.getElem?_eq_getElem hlt⟩
          have p0 := (HCA.out.trans HJ.out).keep (HE2.out (j * 2 + 0) _ (by rw [flatMap_get rcells 2 (fun _ => rfl) qs j 0 (by decide) _ hrk]; rfl)) (by simp)
          have p1 := (HCA.out.trans HJ.out).keep (HE2.out (j * 2 + 1) _ (by rw [flatMap_get rcells 2 (fun _ => rfl) qs j 1 (by decide) _ hrk]; rfl)) (by simp)
          rw [Nat.add_zero] at p0
          rw [← Nat.add_assoc] at p1
          have q0 := (HCA.out.trans HJ.out).keep (HE4.out (j * 2 + 0) _ (by rw [flatMap_get rcells 2 (fun _ => rfl) qs j 0 (by decide) _ hrk]; rfl)) (by simp)
          have q1 := (HCA.out.trans HJ.out).keep (HE4.out (j * 2 + 1) _ (by rw [flatMap_get rcells 2 (fun _ => rfl) qs j 1 (by decide) _ hrk]; rfl)) (by simp)
          rw [Nat.add_zero] at q0
          rw [← Nat.add_assoc] at q1
          have e1 := (HBX.out.keep HJ.out (by simp)).cell (o := 1) rfl
          have f1 := (HBY.out.keep HJ.out (by simp)).cell (o := 1) rfl
          have hj1000 : (j : Int) < 1000 := by have := HML.out; omega
          have hj0 : (0 : Int) ≤ (j : Int) := by omega
          have hjl : (j : Int) < (qs.length : Int) := by omega
          clear hrk hlt hj
          go_wp2_with fail
          go_quiet (fail)
          have k8 : IntKind.i64.wrap ((j : Int) + 1) = (j : Int) + 1 := by rw [IntKind.wrap_i64]; omega
          go_wp2_with fail
          have hltj := HLT.out
          go_roundw
          case rel => exact ⟨j + 1, by omega, by go_num, Lib.hid (HJ.out.drewN _)⟩
          case measure => simp [intOf]; omega
        · obtain rfl : qs.length = j := by omega
          clear hlt hj
          go_wp2_with fail
          go_ret
          exact ⟨rfl, HCA.out.trans HJ.out⟩
end Go.Proofs.Ytjplamoofkcojaa.lay
