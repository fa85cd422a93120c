/- Package codec, its reference and plain.Bytes: the walks, part 1. -/
import Derived.Test.YtkmalnojkjmjiaaProg
import Derived.Test.YtkmalnojkjmjiaaKit
namespace Go.Proofs.Ytkmalnojkjmjiaa.codec
open Go Go.RowKit Go.Proofs.Ytkmalnojkjmjiaa.kit
set_option linter.unusedVariables false
set_option linter.unusedSimpArgs false

theorem info5 : (Try.prog.info? 5).map (fun i => (i.zero, i.size, i.bytes)) = some (some (.int .u8 0), 1, 1) := by kernel_rfl

/-- a row of bytes, read as numbers -/
def ReadsB (w : World) (v : Value) (zs : List Int) : Prop := Reads w 1 v zs.length (zs.map (Value.int .u8)) ∧ ∀ n ∈ zs, (Lit.int .u8 n).wf = true

theorem run_bytes_string {w : World} {v : Value} {zs : List Int} (h : ReadsB w v zs) (w' : World) (hk : Chg [] w w') :
    (convert 22 9 v).run Try.prog w' = .ok (.string (strOfNums zs)) w' := by
  have h' := h.1.fresh hk
  obtain ⟨_, hm, ⟨h0, a, c, rfl, ha, hc⟩ | ⟨h0, b, off, c, rfl, hn, hc, hx⟩⟩ := h'
  · obtain rfl : zs = [] := List.eq_nil_of_length_eq_zero h0
    cases a with
    | none => exact run_convert_bytes_nil w' _ _ Try.underlying22 Try.underlying5 _ _ _ Try.underlying9
    | some x =>
      have hl : (loadCells x 0).run Try.prog w' = .ok #[] w' := run_loadCells_list (P := Try.prog) w' x [] (fun j u hj => by simp at hj)
      rw [run_convert_bytes_string w' _ _ _ _ _ _ Try.underlying22 Try.underlying5 Try.underlying9, run_bytesToString w' x 0 c [] hl]
      rfl
  · refine run_convert_bytes_arg w' _ _ Try.underlying22 Try.underlying5 b off zs.length c zs rfl (fun i hi => ?_) _ Try.underlying9
    exact hx i _ (by rw [List.getElem?_map, List.getElem?_eq_getElem hi, List.getD_eq_getElem?_getD, List.getElem?_eq_getElem hi]; rfl)

theorem Bytes_any (v1 v2 : Value) (xs ys : List Int) (w : World) (h1 : ReadsB w v1 xs) (h2 : ReadsB w v2 ys) :
    Calls Try.prog 13 #[v1, v2] w fun e w' => e = .returned (.bool (decide (xs = ys))) ∧ w = w' := by
  have c1 := run_bytes_string h1 w (Chg.refl _ _)
  have c2 := run_bytes_string h2 w (Chg.refl _ _)
  go_enter Try.func13, Try.ntmps13
  go_wp2
  go_ret
  refine ⟨ret_bool ?_, rfl⟩
  show ((strOfNums xs).toList == (strOfNums ys).toList) = _
  rw [Bool.eq_iff_iff, beq_iff_eq, decide_eq_true_iff]
  exact ⟨strOfNums_inj h1.2 h2.2, fun h => by rw [h]⟩
end Go.Proofs.Ytkmalnojkjmjiaa.codec
