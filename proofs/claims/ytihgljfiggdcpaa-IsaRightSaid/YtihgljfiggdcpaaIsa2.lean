/- Package isa: Word, Kind. -/
import Derived.Test.YtihgljfiggdcpaaIsa
namespace Go.Proofs.Ytihgljfiggdcpaa.isa
open Go Go.RowKit Go.Proofs.Ytihgljfiggdcpaa.kit
set_option linter.unusedVariables false
set_option maxRecDepth 20000

/-- a shape, picked out of all -/
def shapeAt (k : Nat) : Shape := shapes.getD k ⟨[], 0, 0, 0, 0, [], []⟩
def wordB (k : Nat) : ByteArray := ⟨⟨(shapeAt k).word⟩⟩
def usesB (k : Nat) : ByteArray := ⟨⟨(shapeAt k).uses⟩⟩
def setsB (k : Nat) : ByteArray := ⟨⟨(shapeAt k).sets⟩⟩
theorem pick_all : (List.range 22).map (fun k => shapesCells.extract (k * 7) (k * 7 + 7)) = (List.range 22).map (fun k => (shapeAt k).cells.toArray) := by kernel_rfl
theorem pick_run (k : Nat) (hk : k < 22) (u : World) : (Instr.index 81 (.agg shapesCells) (.int .i64 (k : Int))).run Try.prog u =
    .ok (.agg #[.string (wordB k), .int .i64 (shapeAt k).a, .int .i64 (shapeAt k).b, .int .i64 (shapeAt k).c, .int .i64 (shapeAt k).n, .string (usesB k), .string (setsB k)]) u := by
  have h1 : (Try.prog.info? 80).map (·.size) = some 7 := by kernel_rfl
  simp [Instr.index, go_sem]
  rw [if_pos hk, List.map_inj_left.1 pick_all k (List.mem_range.2 hk)]
  rfl
theorem field_word (k : Nat) (u : World) : (Instr.field 80 (.agg #[.string (wordB k), .int .i64 (shapeAt k).a, .int .i64 (shapeAt k).b, .int .i64 (shapeAt k).c, .int .i64 (shapeAt k).n, .string (usesB k), .string (setsB k)]) 0).run Try.prog u = .ok (.string (wordB k)) u := by
  simp [Instr.field, go_sem, asAgg]
theorem known_in (k : Nat) (hk : k < 22) (w : World) : Calls Try.prog 45 #[.int .i64 (k : Int)] w fun e w' => e = .returned (.bool true) ∧ w = w' := by
  refine (known_any k w).mono ?_
  rintro e w' ⟨rfl, rfl⟩
  refine ⟨?_, rfl⟩
  rw [show decide (0 ≤ (k : Int)) = true from by simp, show decide ((k : Int) < 22) = true from by simp; omega]; rfl
theorem known_out (k : Int) (hk : k < 0 ∨ 22 ≤ k) (w : World) : Calls Try.prog 45 #[.int .i64 k] w fun e w' => e = .returned (.bool false) ∧ w = w' := by
  refine (known_any k w).mono ?_
  rintro e w' ⟨rfl, rfl⟩
  refine ⟨?_, rfl⟩
  rw [show (decide (0 ≤ k) && decide (k < 22)) = false from by simp; omega]
theorem Word_in (k : Nat) (hk : k < 22) (w : World) :
    Calls Try.prog 23 #[.int .i64 (k : Int)] w fun e w' => e = .returned (.string (wordB k)) ∧ Chg [] w w' := by
  have hp := pick_run k hk
  have hf := field_word k
  go_enter Try.func23, Try.ntmps23
  go_wp2_with (first | (go_at_call 45; refine (known_in k hk _).mono ?_; rintro e w1 ⟨rfl, rfl⟩) | (go_at_call 44; refine (shapes_any _).mono ?_; rintro e w1 ⟨rfl, hc1⟩))
  go_ret
  exact ⟨rfl, hc1⟩
theorem Word_out (k : Int) (hk : k < 0 ∨ 22 ≤ k) (w : World) :
    Calls Try.prog 23 #[.int .i64 k] w fun e w' => e = .returned (.string ⟨#[]⟩) ∧ w = w' := by
  go_enter Try.func23, Try.ntmps23
  go_wp2_with (go_at_call 45; refine (known_out k hk _).mono ?_; rintro e w1 ⟨rfl, rfl⟩)
  go_ret
  exact ⟨rfl, rfl⟩

/-- what Kind tells: the first of so many -/
def firstW (s : ByteArray) (n : Nat) : Prop := ∀ i, i < n → wordB i ≠ s
theorem toList_inj {a b : ByteArray} (h : a.toList = b.toList) : a = b := by
  rw [ByteArray.toList_eq, ByteArray.toList_eq] at h
  cases a; cases b
  simp only [Array.toList_inj] at h
  rw [h]
theorem Kind_any (s : ByteArray) (w : World) :
    Calls Try.prog 22 #[.string s] w fun e w' => ((∃ k : Nat, k < 22 ∧ wordB k = s ∧ firstW s k ∧ e = .returned (.tuple #[.int .i64 k, .bool true])) ∨ (firstW s 22 ∧ e = .returned (.tuple #[.int .i64 0, .bool false]))) ∧ Chg [] w w' := by
  go_enter Try.func22, Try.ntmps22
  go_wp2_with (go_at_call 44; refine (shapes_any _).mono ?_; rintro e w1 ⟨rfl, hc1⟩; have HC1 := Lib.hid hc1; clear hc1)
  go_loopw [4, 5, 7] (fun _ _ i wr => ∃ k : Nat, k ≤ 22 ∧ i = .int .i64 k ∧ Hid (firstW s k) ∧ Hid (Chg [] w wr)) (fun _ _ i _ => 22 - (intOf i).toNat)
  case atStart => exact ⟨0, by omega, rfl, Lib.hid (fun i hi => by omega), HC1⟩
  case round =>
    obtain ⟨k, hk, rfl, HF, HC⟩ := hrel
    by_cases hlt : k < 22
    · have hp := pick_run k hlt
      by_cases hs : wordB k = s
      · go_wp2_with fail
        go_ret2
        exact ⟨.inl ⟨k, hlt, hs, HF.out, rfl⟩, HC.out.alloc _⟩
      · have hb : ((wordB k).toList == s.toList) = false := by
          rw [Bool.eq_false_iff]
          intro h
          rw [beq_iff_eq] at h
          exact hs (toList_inj h)
        go_wp2_with fail
        go_roundw
        case rel =>
          refine ⟨k + 1, by omega, by go_num, Lib.hid (fun i hi => ?_), Lib.hid (HC.out.alloc _)⟩
          by_cases hik : i = k
          · subst hik; exact hs
          · exact HF.out i (by omega)
        case measure => simp [intOf]; omega
    · go_wp2_with fail
      go_ret2
      obtain rfl : k = 22 := by omega
      exact ⟨.inr ⟨HF.out, rfl⟩, HC.out⟩
end Go.Proofs.Ytihgljfiggdcpaa.isa
