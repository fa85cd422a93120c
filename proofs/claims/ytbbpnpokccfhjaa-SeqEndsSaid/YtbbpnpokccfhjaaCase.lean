/- A case: an operation on an object, a memory's words, and what others do. -/
import Derived.Test.YtbbpnpokccfhjaaObjI
import Derived.Test.YtbbpnpokccfhjaaSmall
import Derived.Test.YtbbpnpokccfhjaaCore5
import Derived.Deep.Cut
namespace Go.Proofs.Ytbbpnpokccfhjaa.obj
open Go Go.RowKit Go.Proofs.Ytbbpnpokccfhjaa.kit Go.Proofs.Ytbbpnpokccfhjaa.mem
set_option linter.unusedVariables false
set_option maxRecDepth 20000

theorem cellsCase : Try.prog.cellsOf 36 = 14 := by kernel_rfl
theorem cellsPoke : Try.prog.cellsOf 81 = 3 := by kernel_rfl
theorem cellsPokes : Try.prog.cellsOf 34 = 1 := by kernel_rfl
structure Poke where
  turn : Int
  at_ : Int
  w : Int
def Poke.cells (p : Poke) : List Value := [.int .i64 p.turn, .int .i64 p.at_, .int .u32 p.w]
def Poke.ok (p : Poke) : Prop := (-9223372036854775808 ≤ p.turn ∧ p.turn ≤ 9223372036854775807) ∧ (-9223372036854775808 ≤ p.at_ ∧ p.at_ ≤ 9223372036854775807) ∧ (0 ≤ p.w ∧ p.w ≤ 4294967295)
/-- the pokes of a case, in memory -/
def ReadsP (w : World) (v : Value) (ps : List Poke) : Prop := Reads w 3 v ps.length (ps.flatMap Poke.cells) ∧ ∀ p ∈ ps, p.ok
theorem ReadsP.chg {w w' : World} {v : Value} {ps : List Poke} (h : ReadsP w v ps) (k : Chg [] w w') : ReadsP w' v ps := ⟨h.1.fresh k, h.2⟩
theorem case_open {w : World} {n : Nat} {cs : List Value} (h : kit.Opens Try.prog w (n + 5) 36 cs) :
    ∃ (k w' s c st : Int) (ia : Option Addr) (il ic : Nat) (wri : Int) (ra : Option Addr) (rl rc : Nat) (at_ op rd_ : Int) (qa : Option Addr) (ql qc : Nat) (la : Option Addr) (ll lc : Nat) (pa : Option Addr) (pl pc : Nat) ,
      cs = [.int .i64 k, .int .i64 w', .int .i64 s, .int .i64 c, .int .u32 st, .slice ia il ic, .int .i64 wri, .slice ra rl rc, .int .i64 at_, .int .i64 op, .int .i64 rd_, .slice qa ql qc, .slice la ll lc, .slice pa pl pc] ∧ (il ≤ 100 → rl ≤ 100 → ObjW k w' s c st il rl) ∧ (-9223372036854775808 ≤ at_ ∧ at_ ≤ 9223372036854775807) ∧ (-9223372036854775808 ≤ op ∧ op ≤ 9223372036854775807) ∧ (-9223372036854775808 ≤ rd_ ∧ rd_ ≤ 9223372036854775807) ∧
      (∃ ini, ReadsW w (.slice ia il ic) ini) ∧ (∃ rec, ReadsW w (.slice qa ql qc) rec) ∧ (∃ l, ReadsW w (.slice la ll lc) l) ∧ ∃ ps, ReadsP w (.slice pa pl pc) ps := by
  have hl := (h.struct Try.underlying36).1
  have h0 := h.field Try.underlying36 0 _ rfl 0 8 rfl cellsO
  obtain ⟨k, w', s, c, st, ia, il, ic, wri, ra, rl, rc, hcs, hb⟩ := obj_open (n := n + 1) h0
  rw [hcs] at h0
  obtain ⟨at_, h8, w8⟩ := (h.field Try.underlying36 1 _ rfl 8 1 rfl cellsInt).int Try.underlying3
  obtain ⟨op, h9, w9⟩ := (h.field Try.underlying36 2 _ rfl 9 1 rfl cellsInt).int Try.underlying3
  obtain ⟨rd_, h10, w10⟩ := (h.field Try.underlying36 3 _ rfl 10 1 rfl cellsInt).int Try.underlying3
  have o11 := h.field Try.underlying36 4 _ rfl 11 1 rfl cellsWs
  have o12 := h.field Try.underlying36 5 _ rfl 12 1 rfl cellsWs
  have o13 := h.field Try.underlying36 6 _ rfl 13 1 rfl cellsPokes
  obtain ⟨qa, ql, qc, h11⟩ := o11.isSlice Try.underlying23 (by rw [cellsU32]; decide)
  obtain ⟨la, ll, lc, h12⟩ := o12.isSlice Try.underlying23 (by rw [cellsU32]; decide)
  obtain ⟨pa, pl, pc, h13⟩ := o13.isSlice Try.underlying34 (by rw [cellsPoke]; decide)
  rw [h11] at o11
  rw [h12] at o12
  rw [h13] at o13
  obtain ⟨z11, _, r11, x11⟩ := kit.Opens.ints (n := n + 2) o11 Try.underlying23 Try.underlying22 cellsU32
  obtain ⟨z12, _, r12, x12⟩ := kit.Opens.ints (n := n + 2) o12 Try.underlying23 Try.underlying22 cellsU32
  obtain ⟨xs, hx, hxs⟩ := kit.Opens.slice (n := n + 3) o13 Try.underlying34 cellsPoke (by decide)
  obtain ⟨ps, hpl, hpx, hpw⟩ := rows_of Poke.cells Poke.ok 3 (fun _ => rfl) pl xs hx.1 fun i hi => by
    have hp := hxs i hi
    have hl3 := (hp.struct Try.underlying81).1
    obtain ⟨t0, g0, v0⟩ := (hp.field Try.underlying81 0 _ rfl 0 1 rfl cellsInt).int Try.underlying3
    obtain ⟨t1, g1, v1⟩ := (hp.field Try.underlying81 1 _ rfl 1 1 rfl cellsInt).int Try.underlying3
    obtain ⟨t2, g2, v2⟩ := (hp.field Try.underlying81 2 _ rfl 2 1 rfl cellsU32).int Try.underlying22
    rw [cellsPoke] at hl3
    refine ⟨⟨t0, t1, t2⟩, ?_, wf_i64 v0, wf_i64 v1, wf_u32 v2⟩
    generalize (xs.drop (i * 3)).take 3 = ys at *
    match ys, hl3 with
    | [y0, y1, y2], _ => simp at g0 g1 g2; rw [g0, g1, g2]; rfl
  rw [cellsCase] at hl
  refine ⟨k, w', s, c, st, ia, il, ic, wri, ra, rl, rc, at_, op, rd_, qa, ql, qc, la, ll, lc, pa, pl, pc, ?_, hb, wf_i64 w8, wf_i64 w9, wf_i64 w10, init_open (n := n + 1) h0, ⟨z11, r11, x11⟩, ⟨z12, r12, x12⟩, ⟨ps, ?_, hpw⟩⟩
  · match cs, hl with
    | [y0, y1, y2, y3, y4, y5, y6, y7, y8, y9, y10, y11, y12, y13], _ =>
      simp at hcs h8 h9 h10 h11 h12 h13
      obtain ⟨rfl, rfl, rfl, rfl, rfl, rfl, rfl, rfl⟩ := hcs
      rw [h8, h9, h10, h11, h12, h13]
  · rw [hpl, ← hpx]; exact hx

def lightB (il rl ql ll pl : Nat) : Bool := decide (il ≤ 100 ∧ rl ≤ 100) && decide (ql ≤ 100) && decide (ll ≤ 400) && decide (pl ≤ 100)
set_option maxHeartbeats 2000000 in
theorem Light_any (k w s c st : Int) (ia : Option Addr) (il ic : Nat) (wri : Int) (ra : Option Addr) (rl rc : Nat) (at_ op rd_ : Int) (qa : Option Addr) (ql qc : Nat) (la : Option Addr) (ll lc : Nat) (pa : Option Addr) (pl pc : Nat) (W : World) :
    Calls Try.prog 24 #[.agg #[.int .i64 k, .int .i64 w, .int .i64 s, .int .i64 c, .int .u32 st, .slice ia il ic, .int .i64 wri, .slice ra rl rc, .int .i64 at_, .int .i64 op, .int .i64 rd_, .slice qa ql qc, .slice la ll lc, .slice pa pl pc]] W fun e W' => e = .returned (.bool (lightB il rl ql ll pl)) ∧ Chg [] W W' := by
  have key : ∀ b, decide (il ≤ 100 ∧ rl ≤ 100) = b → Calls Try.prog 24 #[.agg #[.int .i64 k, .int .i64 w, .int .i64 s, .int .i64 c, .int .u32 st, .slice ia il ic, .int .i64 wri, .slice ra rl rc, .int .i64 at_, .int .i64 op, .int .i64 rd_, .slice qa ql qc, .slice la ll lc, .slice pa pl pc]] W fun e W' => e = .returned (.bool (lightB il rl ql ll pl)) ∧ Chg [] W W' := by
    intro b hb
    generalize hr : lightB il rl ql ll pl = r
    have HR := Lib.hid hr
    have HB := Lib.hid hb
    clear hr hb
    have HBX : Hid (Blk (W.alloc (.cells #[.int .i64 k, .int .i64 w, .int .i64 s, .int .i64 c, .int .u32 st, .slice ia il ic, .int .i64 wri, .slice ra rl rc, .int .i64 at_, .int .i64 op, .int .i64 rd_, .slice qa ql qc, .slice la ll lc, .slice pa pl pc] 36)) W.heap.size #[.int .i64 k, .int .i64 w, .int .i64 s, .int .i64 c, .int .u32 st, .slice ia il ic, .int .i64 wri, .slice ra rl rc, .int .i64 at_, .int .i64 op, .int .i64 rd_, .slice qa ql qc, .slice la ll lc, .slice pa pl pc] 36) := Lib.hid (Blk.new W _ _)
    cases b
    all_goals
      go_enter Try.func24, Try.ntmps24
      go_wp2_with (go_at_call 13; refine (small_any k w s c st ia il ic wri ra rl rc _).mono ?_; rintro e w1 ⟨rfl, hc⟩; rw [HB.out]; have HC := Lib.hid (((Chg.refl [] W).alloc _).trans hc); have HB1 := Lib.hid (HBX.out.keep hc (by simp)); clear hc; have e11 : w1.cell? ⟨W.heap.size, 11, none⟩ = some (.slice qa ql qc) := HB1.out.cell rfl; have e12 : w1.cell? ⟨W.heap.size, 12, none⟩ = some (.slice la ll lc) := HB1.out.cell rfl; have e13 : w1.cell? ⟨W.heap.size, 13, none⟩ = some (.slice pa pl pc) := HB1.out.cell rfl)
      all_goals (go_ret; refine ⟨?_, HC.out⟩; rw [← HR.out]; refine ret_bool ?_; unfold lightB; rw [HB.out]; rw [Bool.eq_iff_iff]; (first | (simp; done) | (simp; omega) | (simp_all; done) | (simp_all; omega) | (trace_state; fail)))
  exact key _ rfl
end Go.Proofs.Ytbbpnpokccfhjaa.obj
