/- The reference's sets of numbers: Of. -/
import Derived.Test.YtihgljfiggdcpaaIsaT
namespace Go.Proofs.Ytihgljfiggdcpaa.isa
open Go Go.RowKit Go.Proofs.Ytihgljfiggdcpaa.kit Go.Proofs.Ytihgljfiggdcpaa.codec
set_option linter.unusedVariables false
set_option maxRecDepth 20000

theorem szN : (Try.prog.info? 3).map (·.size) = some 1 := by kernel_rfl
def addI (i m x : Int) : Int := if x = i ∧ m % 2 = 0 then (m + 1) % 18446744073709551616 else m
def innI (zs : List Int) (i m : Int) : Int := zs.foldl (addI i) m
def ofK (zs : List Int) : Nat → Int
  | 0 => 0
  | j + 1 => innI zs (63 - j) ((2 * ofK zs j) % 18446744073709551616)
theorem addI_bd (i m x : Int) (h : 0 ≤ m ∧ m < 18446744073709551616) : 0 ≤ addI i m x ∧ addI i m x < 18446744073709551616 := by
  unfold addI; split
  · omega
  · exact h
theorem innI_bd (zs : List Int) (i m : Int) (h : 0 ≤ m ∧ m < 18446744073709551616) : 0 ≤ innI zs i m ∧ innI zs i m < 18446744073709551616 := by
  induction zs generalizing m with
  | nil => exact h
  | cons x r ih => exact ih _ (addI_bd i m x h)
theorem ofK_bd (zs : List Int) (j : Nat) : 0 ≤ ofK zs j ∧ ofK zs j < 18446744073709551616 := by
  cases j with
  | zero => simp [ofK]
  | succ j => exact innI_bd zs _ _ (by omega)
set_option maxHeartbeats 2000000 in
theorem Ofs_any (v : Value) (zs : List Int) (w : World) (hr : ReadsN w v zs) (hl : zs.length ≤ 10) (hz : ∀ x ∈ zs, 0 ≤ x ∧ x < 8) :
    Calls Try.prog 38 #[v] w fun e w' => e = .returned (.int .u64 (ofK zs 64)) ∧ w = w' := by
  obtain ⟨bb, off, hix, hcell, _⟩ := reads_index (P := Try.prog) Try.underlying70 szN hr
  obtain ⟨a1, cap1, rfl, _⟩ := reads_slice hr
  have HX := Lib.hid hix
  have HC := Lib.hid hcell
  clear hix hcell hr
  generalize hN : zs.length = N at *
  have HN := Lib.hid hN
  clear hN
  go_enter Try.func38, Try.ntmps38
  go_wp2_with fail
  go_loopw [3, 4] (fun m i wr => ∃ j : Nat, j ≤ 64 ∧ i = .int .i64 (63 - j) ∧ m = .int .u64 (ofK zs j) ∧ w = wr) (fun _ i _ => (intOf i + 1).toNat)
  case atStart => exact ⟨0, Nat.zero_le _, rfl, rfl, rfl⟩
  case round =>
    obtain ⟨j, hj, rfl, rfl, rfl⟩ := hrel
    have hbd := ofK_bd zs j
    by_cases hlt : j < 64
    · have hs : ofK zs (j + 1) = innI zs (63 - j) ((2 * ofK zs j) % 18446744073709551616) := rfl
      have HS := Lib.hid hs
      clear hs
      generalize hm0 : ofK zs j = m0 at *
      clear hm0
      go_wp2_with fail
      have hm1 : 0 ≤ (2 * m0) % 18446744073709551616 ∧ (2 * m0) % 18446744073709551616 < 18446744073709551616 := by omega
      have HM1 := Lib.hid hm1
      clear hm1 hbd
      go_loopw [3, 15] (fun m i wr => ∃ k : Nat, k ≤ N ∧ i = .int .i64 k ∧ m = .int .u64 (innI (zs.take k) (63 - j) ((2 * m0) % 18446744073709551616)) ∧ w = wr) (fun _ i _ => N - (intOf i).toNat)
      case atStart => exact ⟨0, Nat.zero_le _, rfl, rfl, rfl⟩
      case round =>
        obtain ⟨k, hk, rfl, rfl, rfl⟩ := hrel
        have hb2 := innI_bd (zs.take k) (63 - j) ((2 * m0) % 18446744073709551616) HM1.out
        by_cases hlk : k < N
        · have g1 := HX.out k hlk
          obtain ⟨x, hx⟩ : ∃ x, zs[k]? = some x := ⟨_, List.getElem?_eq_getElem (by rw [HN.out]; exact hlk)⟩
          have g2 := HC.out k (.int .i64 x) (by rw [List.getElem?_map, hx]; rfl)
          have hxb := hz x (List.mem_of_getElem? hx)
          have ht : innI (zs.take (k + 1)) (63 - j) ((2 * m0) % 18446744073709551616) = addI (63 - j) (innI (zs.take k) (63 - j) ((2 * m0) % 18446744073709551616)) x := by
            unfold innI; rw [List.take_add_one, hx, List.foldl_append]; rfl
          have HT := Lib.hid ht
          clear ht hx
          generalize innI (zs.take k) (63 - j) ((2 * m0) % 18446744073709551616) = m1 at *
          by_cases hxj : x = 63 - j
          · have hxb2 : (x == 63 - (j : Int)) = true := by simpa using hxj
            by_cases hm2 : m1 % 2 = 0
            · have hmb : (m1 % 2 == 0) = true := by simpa using hm2
              have HA := Lib.hid (show addI (63 - j) m1 x = (m1 + 1) % 18446744073709551616 by unfold addI; exact if_pos ⟨hxj, hm2⟩)
              have hm3 : (m1 + 1) % 18446744073709551616 = m1 + 1 := by omega
              clear hxj hm2
              go_wp2
              go_roundw
              case rel => exact ⟨k + 1, by omega, by go_num, by rw [HT.out, HA.out, hm3], trivial⟩
              case measure => simp [intOf]; omega
            · have hmb : (m1 % 2 == 0) = false := by simpa using hm2
              have HA := Lib.hid (show addI (63 - j) m1 x = m1 by unfold addI; exact if_neg (fun h => hm2 h.2))
              clear hxj
              go_wp2
              go_roundw
              case rel => exact ⟨k + 1, by omega, by go_num, by rw [HT.out, HA.out], trivial⟩
              case measure => simp [intOf]; omega
          · have hxb2 : (x == 63 - (j : Int)) = false := by simpa using hxj
            have HA := Lib.hid (show addI (63 - j) m1 x = m1 by unfold addI; exact if_neg (fun h => hxj h.1))
            go_wp2
            go_roundw
            case rel => exact ⟨k + 1, by omega, by go_num, by rw [HT.out, HA.out], trivial⟩
            case measure => simp [intOf]; omega
        · obtain rfl : k = N := by omega
          rw [show zs.take k = zs from List.take_of_length_le (by rw [HN.out]; exact Nat.le_refl _), ← HS.out] at hb2 ⊢
          generalize hm2 : ofK zs (j + 1) = m2 at *
          have HM2 := Lib.hid hm2
          clear hm2
          go_wp2
          go_roundw
          case rel => exact ⟨j + 1, by omega, by go_num, by rw [HM2.out], trivial⟩
          case measure => simp [intOf]; omega
    · obtain rfl : j = 64 := by omega
      go_wp2
      go_ret
      exact ⟨rfl, rfl⟩

theorem of_table : (List.range 8).all (fun a => decide (ofK [(a : Int)] 64 = setL [(a : Int)]) && (List.range 8).all (fun b => decide (ofK [(a : Int), b] 64 = setL [(a : Int), b]) && (List.range 8).all (fun c => decide (ofK [(a : Int), b, c] 64 = setL [(a : Int), b, c])))) = true := by kernel_rfl
theorem of_set (l : List Int) (hl : l.length ≤ 3) (h : ∀ x ∈ l, 0 ≤ x ∧ x < 8) : ofK l 64 = setL l := by
  have nat : ∀ x : Int, 0 ≤ x ∧ x < 8 → ∃ n : Nat, n < 8 ∧ x = n := fun x hx => ⟨x.toNat, by omega, by omega⟩
  match l, hl with
  | [], _ => exact (by kernel_rfl : ofK [] 64 = setL [])
  | [x], _ =>
    obtain ⟨a, ha, rfl⟩ := nat x (h x (by simp))
    have t := List.all_eq_true.1 of_table a (List.mem_range.2 ha)
    simp only [Bool.and_eq_true, decide_eq_true_eq] at t
    exact t.1
  | [x, y], _ =>
    obtain ⟨a, ha, rfl⟩ := nat x (h x (by simp))
    obtain ⟨b, hb, rfl⟩ := nat y (h y (by simp))
    have t := List.all_eq_true.1 of_table a (List.mem_range.2 ha)
    simp only [Bool.and_eq_true] at t
    have t2 := List.all_eq_true.1 t.2 b (List.mem_range.2 hb)
    simp only [Bool.and_eq_true, decide_eq_true_eq] at t2
    exact t2.1
  | [x, y, z], _ =>
    obtain ⟨a, ha, rfl⟩ := nat x (h x (by simp))
    obtain ⟨b, hb, rfl⟩ := nat y (h y (by simp))
    obtain ⟨c, hc, rfl⟩ := nat z (h z (by simp))
    have t := List.all_eq_true.1 of_table a (List.mem_range.2 ha)
    simp only [Bool.and_eq_true] at t
    have t2 := List.all_eq_true.1 t.2 b (List.mem_range.2 hb)
    simp only [Bool.and_eq_true] at t2
    have t3 := List.all_eq_true.1 t2.2 c (List.mem_range.2 hc)
    exact of_decide_eq_true t3
theorem pick_short : (List.range 22).all (fun k => decide ((shapeAt k).uses.length ≤ 3) && decide ((shapeAt k).sets.length ≤ 3)) = true := by kernel_rfl
theorem uses_short (k : Nat) (hk : k < 22) (a b c : Int) : (pickL (usesB k) a b c).length ≤ 3 := by
  have h := List.all_eq_true.1 pick_short k (List.mem_range.2 hk)
  simp only [Bool.and_eq_true, decide_eq_true_eq] at h
  unfold pickL; rw [List.length_map]; exact h.1
theorem sets_short (k : Nat) (hk : k < 22) (a b c : Int) : (pickL (setsB k) a b c).length ≤ 3 := by
  have h := List.all_eq_true.1 pick_short k (List.mem_range.2 hk)
  simp only [Bool.and_eq_true, decide_eq_true_eq] at h
  unfold pickL; rw [List.length_map]; exact h.2
end Go.Proofs.Ytihgljfiggdcpaa.isa
