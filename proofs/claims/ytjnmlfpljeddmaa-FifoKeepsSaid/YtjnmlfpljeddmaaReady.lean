/- A memory in which an object stands. -/
import Derived.Test.YtjnmlfpljeddmaaRop7
import Derived.Test.YtjnmlfpljeddmaaMemo
namespace Go.Proofs.Ytjnmlfpljeddmaa.mem
open Go Go.RowKit Go.Proofs.Ytjnmlfpljeddmaa.kit Go.Proofs.Ytjnmlfpljeddmaa.obj
set_option linter.unusedVariables false
set_option linter.unusedSimpArgs false
set_option maxRecDepth 20000

/-- the words of a memory in which an object stands -/
def readyL (N : Nat) (l : List Int) : List Int := fillL (List.replicate (N + 2) 0) 1 l
set_option maxHeartbeats 2000000 in
theorem Ready_any (k w s c st : Int) (ia : Option Addr) (il ic : Nat) (wri : Int) (ra : Option Addr) (rl rc : Nat) (N : Nat) (v : Value) (l : List Int) (W : World) (h : ObjW k w s c st il rl) (hs : rop.sizeI k w s c st il rl = (N : Int)) (hl : l.length = N) (hr : ReadsW W v l) :
    Calls Try.prog 40 #[.agg #[.int .i64 k, .int .i64 w, .int .i64 s, .int .i64 c, .int .u32 st, .slice ia il ic, .int .i64 wri, .slice ra rl rc], v] W fun e W' => ∃ mb sv, e = .returned (.pointer (some ⟨mb, 0, none⟩)) ∧ MemAt W' mb sv (readyL N l) 0 ∧ Chg [] W W' ∧ W.heap.size ≤ mb ∧ ∀ y, sv.ownBlock = some y → W.heap.size ≤ y := by
  have hN := rop.sizeI_bd k w s c st il rl
  have HSZ := Lib.hid (fun u => rop.Size_any k w s c st ia il ic wri ra rl rc h u)
  rw [hs] at HSZ
  have HNB : Hid (N ≤ 200) := Lib.hid (by omega)
  have hadd : IntKind.i64.wrap ((N : Int) + 2) = (N : Int) + 2 := by rw [IntKind.wrap_i64]; omega
  obtain ⟨a, cc, rfl, _⟩ := reads_slice hr.1
  have HR := Lib.hid hr
  have HL := Lib.hid hl
  clear h hs hN hr hl
  have HNEW := Lib.hid (fun u => New_at (N + 2) u (by have := HNB.out; omega))
  go_enter Try.func40, Try.ntmps40
  go_wp2_with (first
    | (go_at_call 20; refine (HSZ.out _).mono ?_; rintro e w1 ⟨rfl, hc⟩; have HC := Lib.hid (((Chg.refl [] W).alloc _).trans hc); clear hc)
    | (go_at_call 61; rw [show ((N : Int) + 2) = ((N + 2 : Nat) : Int) by omega]; refine (HNEW.out _).mono ?_; rintro e w2 ⟨mb, g, rfl, hm, hc, hb, hg⟩; have HM := Lib.hid hm; have HB : Hid (W.heap.size ≤ mb) := Lib.hid (Nat.le_trans HC.out.size hb); have HG : Hid (W.heap.size ≤ g) := Lib.hid (Nat.le_trans HC.out.size hg); have HC2 := Lib.hid (HC.out.trans hc); clear hm hc hb hg)
    | (go_at_call 62; refine (Fill_ok mb g (N + 2) (List.replicate (N + 2) 0) l 0 1 _ _ (by rw [List.length_replicate]; exact HM.out) (HR.out.chg HC2.out) (by rw [List.length_replicate]; have := HL.out; omega)).mono ?_; rintro e w3 ⟨rfl, hm3, hc3⟩; have HM3 := Lib.hid hm3; have HC3 := Lib.hid hc3; clear hm3 hc3))
  go_ret
  exact ⟨mb, _, rfl, HM3.out, HC2.out.into HC3.out (fun y hy => by simp at hy; subst hy; exact .inr HG.out), HB.out, fun y hy => by simp [Value.ownBlock] at hy; subst hy; exact HG.out⟩
end Go.Proofs.Ytjnmlfpljeddmaa.mem
