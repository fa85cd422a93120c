/- Layouts: regions in memory; the first of them in which a word lies. -/
import Derived.Test.YtjplamoofkcojaaObjA
import Derived.Test.YtjplamoofkcojaaMemo
import Derived.Deep.Cut
namespace Go.Proofs.Ytjplamoofkcojaa.lay
open Go Go.RowKit Go.Proofs.Ytjplamoofkcojaa.kit Go.Proofs.Ytjplamoofkcojaa.obj Go.Proofs.Ytjplamoofkcojaa.mem
set_option linter.unusedVariables false
set_option linter.unusedSimpArgs false
set_option maxRecDepth 20000

theorem cellsReg : Try.prog.cellsOf 58 = 2 := by kernel_rfl
theorem cellsRegs : Try.prog.cellsOf 51 = 1 := by kernel_rfl
theorem cellsLayout : Try.prog.cellsOf 53 = 3 := by kernel_rfl
theorem szReg : (Try.prog.info? 58).map (·.size) = some 2 := by kernel_rfl
theorem infoReg : (Try.prog.info? 58).map (fun i => (i.zero, i.size, i.bytes)) = some (some (.agg #[.int .i64 0, .int .i64 0]), 2, 16) := by kernel_rfl
/-- a region: where it begins, how long it is -/
def rcells (r : Int × Int) : List Value := [.int .i64 r.1, .int .i64 r.2]
def i64B (x : Int) : Prop := -9223372036854775808 ≤ x ∧ x ≤ 9223372036854775807
/-- regions in memory -/
def ReadsR (w : World) (v : Value) (rs : List (Int × Int)) : Prop := Reads w 2 v rs.length (rs.flatMap rcells) ∧ ∀ r ∈ rs, i64B r.1 ∧ i64B r.2
def OwnR (w : World) (B : Nat) (v : Value) (rs : List (Int × Int)) : Prop := w.ownsRow B 58 2 v rs.length (rs.flatMap rcells)
theorem ReadsR.chg {w w' : World} {v : Value} {rs : List (Int × Int)} (h : ReadsR w v rs) (k : Chg [] w w') : ReadsR w' v rs := ⟨h.1.fresh k, h.2⟩
theorem OwnR.reads {w : World} {B : Nat} {v : Value} {rs : List (Int × Int)} (h : OwnR w B v rs) (hr : ∀ r ∈ rs, i64B r.1 ∧ i64B r.2) : ReadsR w v rs := ⟨Reads.of_own h (by decide), hr⟩
theorem regs_open {w : World} {n : Nat} {cs : List Value} (h : kit.Opens Try.prog w (n + 4) 51 cs) : ∃ a l c rs, cs = [.slice a l c] ∧ ReadsR w (.slice a l c) rs := by
  obtain ⟨a, l, c, rfl⟩ := h.isSlice Try.underlying51 (by rw [cellsReg]; decide)
  obtain ⟨xs, hx, hxs⟩ := Opens.slice h Try.underlying51 cellsReg (by decide)
  obtain ⟨rs, hl, hx2, hw⟩ := rows_of rcells (fun r => i64B r.1 ∧ i64B r.2) 2 (fun _ => rfl) l xs hx.1 fun i hi => by
    have hp := hxs i hi
    have hl3 := (hp.struct Try.underlying58).1
    obtain ⟨t0, g0, v0⟩ := (hp.field Try.underlying58 0 _ rfl 0 1 rfl cellsInt).int Try.underlying3
    obtain ⟨t1, g1, v1⟩ := (hp.field Try.underlying58 1 _ rfl 1 1 rfl cellsInt).int Try.underlying3
    rw [cellsReg] at hl3
    refine ⟨(t0, t1), ?_, wf_i64 v0, wf_i64 v1⟩
    generalize (xs.drop (i * 2)).take 2 = ys at *
    match ys, hl3 with
    | [y0, y1], _ => simp at g0 g1; rw [g0, g1]; rfl
  refine ⟨a, l, c, rs, rfl, ?_, hw⟩
  rw [hl, ← hx2]
  exact hx
theorem layout_open {w : World} {n : Nat} {cs : List Value} (h : kit.Opens Try.prog w (n + 5) 53 cs) :
    ∃ a l c rs a2 l2 c2 rs2 sz, cs = [.slice a l c, .slice a2 l2 c2, .int .i64 sz] ∧ ReadsR w (.slice a l c) rs ∧ ReadsR w (.slice a2 l2 c2) rs2 ∧ i64B sz := by
  have hl := (h.struct Try.underlying53).1
  obtain ⟨a, l, c, rs, h0, r0⟩ := regs_open (n := n) (h.field Try.underlying53 0 _ rfl 0 1 rfl cellsRegs)
  obtain ⟨a2, l2, c2, rs2, h1, r1⟩ := regs_open (n := n) (h.field Try.underlying53 1 _ rfl 1 1 rfl cellsRegs)
  obtain ⟨sz, h2, w2⟩ := (h.field Try.underlying53 2 _ rfl 2 1 rfl cellsInt).int Try.underlying3
  rw [cellsLayout] at hl
  refine ⟨a, l, c, rs, a2, l2, c2, rs2, sz, ?_, r0, r1, wf_i64 w2⟩
  match cs, hl with
  | [y0, y1, y2], _ => simp at h0 h1 h2; rw [h0, h1, h2]
/-- does a word lie in a region -/
def hasB (at_ : Int) (r : Int × Int) : Bool := decide (r.1 ≤ at_ ∧ at_ - r.1 < r.2)
/-- the first for which something holds; -1: none -/
def firstI (p : Int × Int → Bool) (rs : List (Int × Int)) : Int := match rs.findIdx? p with | some i => (i : Int) | none => -1
theorem firstI_at {p : Int × Int → Bool} {rs : List (Int × Int)} {j : Nat} {r : Int × Int} (hr : rs[j]? = some r) (hp : p r = true) (hn : ∀ i, i < j → ∀ q, rs[i]? = some q → p q = false) : firstI p rs = (j : Int) := by
  unfold firstI
  have hj := (List.getElem?_eq_some_iff.1 hr)
  have : rs.findIdx? p = some j := by
    rw [List.findIdx?_eq_some_iff_getElem]
    refine ⟨hj.1, by rw [hj.2]; exact hp, fun i hi => ?_⟩
    have := hn i hi _ (List.getElem?_eq_getElem (by have := hj.1; omega))
    simp [this]
  rw [this]
theorem firstI_none {p : Int × Int → Bool} {rs : List (Int × Int)} (hn : ∀ (i : Nat) q, rs[i]? = some q → p q = false) : firstI p rs = -1 := by
  unfold firstI
  have : rs.findIdx? p = none := by
    rw [List.findIdx?_eq_none_iff]
    intro x hx
    obtain ⟨i, hi⟩ := List.getElem?_of_mem hx
    exact hn i x hi
  rw [this]
set_option maxHeartbeats 1000000 in
theorem has_any (r : Int × Int) (at_ : Int) (b : Nat) (W : World) (hb : W.cell? ⟨b, 0, none⟩ = some (.int .i64 at_)) (ha : 0 ≤ at_ ∧ at_ ≤ 9223372036854775807) (hr : i64B r.1 ∧ 0 ≤ r.1) :
    Calls Try.prog 80 #[.agg #[.int .i64 r.1, .int .i64 r.2], .pointer (some ⟨b, 0, none⟩)] W fun e W' => e = .returned (.bool (hasB at_ r)) ∧ Chg [] W W' := by
  obtain ⟨r0, r1⟩ := r
  dsimp only at *
  generalize hg : hasB at_ (r0, r1) = g
  have HG := Lib.hid hg
  clear hg
  have eb := (((Chg.refl [] W).alloc (.cells #[.int .i64 r0, .int .i64 r1] 58)).keep hb (by simp))
  clear hb
  unfold i64B at hr
  by_cases h1 : r0 ≤ at_
  · have hw : IntKind.i64.wrap (at_ - r0) = at_ - r0 := by rw [IntKind.wrap_i64]; omega
    by_cases h2 : at_ - r0 < r1
    all_goals
      go_enter Try.func80, Try.ntmps80
      go_wp2_with fail
      go_ret
      refine ⟨?_, (Chg.refl _ _).alloc _⟩
      rw [← HG.out]
      refine ret_bool ?_
      simp [hasB, h1, h2, hw]
  · go_enter Try.func80, Try.ntmps80
    go_wp2_with fail
    go_ret
    refine ⟨?_, (Chg.refl _ _).alloc _⟩
    rw [← HG.out]
    refine ret_bool ?_
    have h9 : ¬ r0 ≤ at_ := by omega
    simp [hasB, h9]
end Go.Proofs.Ytjplamoofkcojaa.lay
