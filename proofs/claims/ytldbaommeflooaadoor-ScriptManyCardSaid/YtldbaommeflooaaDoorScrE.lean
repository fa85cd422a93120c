/- Scripts: the acts of a text: script.Parse. -/
import Derived.Test.YtldbaommeflooaaDoorScrD
import Derived.Maps.OwnIn
import Derived.Maps.AppendAt
namespace Go.Proofs.YtldbaommeflooaaDoor.scr
open Go Go.RowKit Go.Proofs.YtldbaommeflooaaDoor.kit Go.Proofs.YtldbaommeflooaaDoor.word Go.Shelf
set_option linter.unusedVariables false
set_option linter.unusedSimpArgs false
set_option maxRecDepth 20000
theorem read_any (s : List UInt8) (hs : s.length ≤ 9223372036854775807) (W : World) (hT : TabS W) :
    Calls Tryd.prog 33 #[strV s] W fun e W' => e = .returned (readV (readL s)) ∧ Chg [] W W' := by
  cases h1 : Lib.hasPrefix s runW
  · cases h2 : Lib.hasPrefix s askW
    · exact read_no s h1 h2 hs W hT
    · exact read_ask s h1 h2 hs W hT
  · exact read_run s h1 hs W hT
def stepP (acc : List Ac) (l : List UInt8) : Except (Int × Int) (List Ac) :=
  if Lib.hasSuffix l [10] then
    match readL (Lib.trimSuffix l [10]) with
    | some a => .ok (acc ++ [a])
    | none => .error ((acc.length : Int) + 1, 4)
  else .error ((acc.length : Int) + 1, 2)
def parseP (ls : List (List UInt8)) : Except (Int × Int) (List Ac) := ls.foldlM stepP []
theorem parseP_snoc (pre : List (List UInt8)) (x : List UInt8) {acc : List Ac} (h : parseP pre = .ok acc) : parseP (pre ++ [x]) = stepP acc x := by
  unfold parseP at h ⊢
  rw [List.foldlM_append, h]
  simp [bind, Except.bind]
  cases stepP acc x <;> rfl
theorem stepP_len {acc b : List Ac} {x : List UInt8} (h : stepP acc x = .ok b) : b.length = acc.length + 1 := by
  unfold stepP at h
  split at h
  · split at h
    · cases h; simp
    · cases h
  · cases h
theorem foldP_len : ∀ (pre : List (List UInt8)) (a acc : List Ac), pre.foldlM stepP a = .ok acc → acc.length = a.length + pre.length
  | [], a, acc, h => by cases h; simp
  | x :: pre, a, acc, h => by
    rw [List.foldlM_cons] at h
    cases hs : stepP a x with
    | error e => rw [hs] at h; cases h
    | ok b =>
      rw [hs] at h
      rw [foldP_len pre b acc h, stepP_len hs]
      simp; omega
theorem parseP_len (pre : List (List UInt8)) (acc : List Ac) (h : parseP pre = .ok acc) : acc.length = pre.length := by
  have := foldP_len pre [] acc h
  simpa using this
theorem parseP_stop {pre ls : List (List UInt8)} {e : Int × Int} (hp : pre <+: ls) (h : parseP pre = .error e) : parseP ls = .error e := by
  obtain ⟨r, rfl⟩ := hp
  unfold parseP at h ⊢
  rw [List.foldlM_append, h]
  rfl
/-- what Parse hands back: acts, a line's number, a code -/
def parseR (s : List UInt8) : List Ac × Int × Int :=
  if 65536 < s.length then ([], 0, 6) else
  match parseP (linesL s) with
  | .error (k, e) => ([], k, e)
  | .ok out => if rightA out then (out, 0, 0) else ([], 0, 5)
def OwnA (w : World) (B : Nat) (v : Value) (l : List Ac) : Prop := w.ownsRow B 43 2 v l.length (l.flatMap Ac.cells)
theorem linesL_len : ∀ (k : Nat) (s : List UInt8), s.length ≤ k → (linesL s).length ≤ k ∧ ∀ x ∈ linesL s, x.length ≤ k
  | 0, s, h => by
    have : s = [] := List.eq_nil_of_length_eq_zero (by omega)
    subst this
    rw [linesL_nil]; simp
  | k + 1, s, h => by
    by_cases hs : s = []
    · subst hs; rw [linesL_nil]; simp
    · rw [linesL_cons s hs]
      have h1 := cutAt_pos s hs
      have h2 := List.length_pos_iff.2 hs
      obtain ⟨h3, h4⟩ := linesL_len k (s.drop (cutAt s)) (by simp; omega)
      refine ⟨by simp; omega, fun x hx => ?_⟩
      rcases List.mem_cons.1 hx with rfl | hx
      · simp; omega
      · have := h4 x hx; omega
theorem Lines_any (s : List UInt8) (w : World) :
    Calls Tryd.prog 31 #[strV s] w fun e w' => e = .returned (.func (.func 42) #[] #[.pointer (some ⟨w.heap.size, 0, none⟩)]) ∧ w' = w.alloc (.cells #[strV s] 9) := by
  go_enter Tryd.func31, Tryd.ntmps31
  go_wp2_with fail
  go_ret
  exact ⟨rfl, rfl⟩
theorem infoAct : (Tryd.prog.info? 43).map (fun i => (i.zero, i.size, i.bytes)) = some (some (.agg #[.int .i64 0, .int .i64 0]), 2, 16) := by kernel_rfl
end Go.Proofs.YtldbaommeflooaaDoor.scr
