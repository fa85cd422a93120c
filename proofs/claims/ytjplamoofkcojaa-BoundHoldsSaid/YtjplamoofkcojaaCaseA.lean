/- Parts joined: ObjI, Case, Case2. -/
import Derived.Test.YtjplamoofkcojaaObjA
import Derived.Test.YtjplamoofkcojaaMemo
import Derived.Test.YtjplamoofkcojaaCore
import Derived.Deep.Cut
/- An object's first record, as an argument. -/
namespace Go.Proofs.Ytjplamoofkcojaa.obj
open Go Go.RowKit Go.Proofs.Ytjplamoofkcojaa.kit Go.Proofs.Ytjplamoofkcojaa.mem
set_option linter.unusedVariables false
set_option linter.unusedSimpArgs false
set_option maxRecDepth 20000

theorem init_open {w : World} {n : Nat} {k w' s c st : Int} {ia : Option Addr} {il ic : Nat} {wr : Int} {ra : Option Addr} {rl rc : Nat}
    (h : kit.Opens Try.prog w (n + 3) 26 [.int .i64 k, .int .i64 w', .int .i64 s, .int .i64 c, .int .u32 st, .slice ia il ic, .int .i64 wr, .slice ra rl rc]) : ∃ ini, ReadsW w (.slice ia il ic) ini := by
  have h5 := h.field Try.underlying26 5 _ rfl 5 1 rfl cellsWs
  obtain ⟨zs, _, hr, hw⟩ := kit.Opens.ints (n := n) (a := ia) (len := il) (cap := ic) (by simpa using h5) Try.underlying23 Try.underlying22 cellsU32
  exact ⟨zs, hr, hw⟩
end Go.Proofs.Ytjplamoofkcojaa.obj

/- A case: an operation on an object, a memory's words, and what others do. -/
namespace Go.Proofs.Ytjplamoofkcojaa.obj
open Go Go.RowKit Go.Proofs.Ytjplamoofkcojaa.kit Go.Proofs.Ytjplamoofkcojaa.mem
set_option linter.unusedVariables false
set_option linter.unusedSimpArgs false
set_option maxRecDepth 20000

theorem cellsCase : Try.prog.cellsOf 34 = 14 := by kernel_rfl
theorem cellsPoke : Try.prog.cellsOf 41 = 3 := by kernel_rfl
theorem cellsPokes : Try.prog.cellsOf 32 = 1 := by kernel_rfl
structure Poke where
  turn : Int
  at_ : Int
  w : Int
def Poke.cells (p : Poke) : List Value := [.int .i64 p.turn, .int .i64 p.at_, .int .u32 p.w]
def Poke.ok (p : Poke) : Prop := (-9223372036854775808 ≤ p.turn ∧ p.turn ≤ 9223372036854775807) ∧ (-9223372036854775808 ≤ p.at_ ∧ p.at_ ≤ 9223372036854775807) ∧ (0 ≤ p.w ∧ p.w ≤ 4294967295)
/-- the pokes of a case, in memory -/
def ReadsP (w : World) (v : Value) (ps : List Poke) : Prop := Reads w 3 v ps.length (ps.flatMap Poke.cells) ∧ ∀ p ∈ ps, p.ok
theorem ReadsP.chg {w w' : World} {v : Value} {ps : List Poke} (h : ReadsP w v ps) (k : Chg [] w w') : ReadsP w' v ps := ⟨h.1.fresh k, h.2⟩
theorem case_open {w : World} {n : Nat} {cs : List Value} (h : kit.Opens Try.prog w (n + 5) 34 cs) :
    ∃ (k w' s c st : Int) (ia : Option Addr) (il ic : Nat) (wri : Int) (ra : Option Addr) (rl rc : Nat) (at_ op rd_ : Int) (qa : Option Addr) (ql qc : Nat) (la : Option Addr) (ll lc : Nat) (pa : Option Addr) (pl pc : Nat) ,
      cs = [.int .i64 k, .int .i64 w', .int .i64 s, .int .i64 c, .int .u32 st, .slice ia il ic, .int .i64 wri, .slice ra rl rc, .int .i64 at_, .int .i64 op, .int .i64 rd_, .slice qa ql qc, .slice la ll lc, .slice pa pl pc] ∧ (il ≤ 100 → rl ≤ 100 → ObjW k w' s c st il rl) ∧ (-9223372036854775808 ≤ at_ ∧ at_ ≤ 9223372036854775807) ∧ (-9223372036854775808 ≤ op ∧ op ≤ 9223372036854775807) ∧ (-9223372036854775808 ≤ rd_ ∧ rd_ ≤ 9223372036854775807) ∧
      (∃ ini, ReadsW w (.slice ia il ic) ini) ∧ (∃ rec, ReadsW w (.slice qa ql qc) rec) ∧ (∃ l, ReadsW w (.slice la ll lc) l) ∧ ∃ ps, ReadsP w (.slice pa pl pc) ps := by
  have hl := (h.struct Try.underlying34).1
  have h0 := h.field Try.underlying34 0 _ rfl 0 8 rfl cellsO
  obtain ⟨k, w', s, c, st, ia, il, ic, wri, ra, rl, rc, hcs, hb⟩ := obj_open (n := n + 1) h0
  rw [hcs] at h0
  obtain ⟨at_, h8, w8⟩ := (h.field Try.underlying34 1 _ rfl 8 1 rfl cellsInt).int Try.underlying3
  obtain ⟨op, h9, w9⟩ := (h.field Try.underlying34 2 _ rfl 9 1 rfl cellsInt).int Try.underlying3
  obtain ⟨rd_, h10, w10⟩ := (h.field Try.underlying34 3 _ rfl 10 1 rfl cellsInt).int Try.underlying3
  have o11 := h.field Try.underlying34 4 _ rfl 11 1 rfl cellsWs
  have o12 := h.field Try.underlying34 5 _ rfl 12 1 rfl cellsWs
  have o13 := h.field Try.underlying34 6 _ rfl 13 1 rfl cellsPokes
  obtain ⟨qa, ql, qc, h11⟩ := o11.isSlice Try.underlying23 (by rw [cellsU32]; decide)
  obtain ⟨la, ll, lc, h12⟩ := o12.isSlice Try.underlying23 (by rw [cellsU32]; decide)
  obtain ⟨pa, pl, pc, h13⟩ := o13.isSlice Try.underlying32 (by rw [cellsPoke]; decide)
  rw [h11] at o11
  rw [h12] at o12
  rw [h13] at o13
  obtain ⟨z11, _, r11, x11⟩ := kit.Opens.ints (n := n + 2) o11 Try.underlying23 Try.underlying22 cellsU32
  obtain ⟨z12, _, r12, x12⟩ := kit.Opens.ints (n := n + 2) o12 Try.underlying23 Try.underlying22 cellsU32
  obtain ⟨xs, hx, hxs⟩ := kit.Opens.slice (n := n + 3) o13 Try.underlying32 cellsPoke (by decide)
  obtain ⟨ps, hpl, hpx, hpw⟩ := rows_of Poke.cells Poke.ok 3 (fun _ => rfl) pl xs hx.1 fun i hi => by
    have hp := hxs i hi
    have hl3 := (hp.struct Try.underlying41).1
    obtain ⟨t0, g0, v0⟩ := (hp.field Try.underlying41 0 _ rfl 0 1 rfl cellsInt).int Try.underlying3
    obtain ⟨t1, g1, v1⟩ := (hp.field Try.underlying41 1 _ rfl 1 1 rfl cellsInt).int Try.underlying3
    obtain ⟨t2, g2, v2⟩ := (hp.field Try.underlying41 2 _ rfl 2 1 rfl cellsU32).int Try.underlying22
    rw [cellsPoke] at hl3
    refine ⟨⟨t0, t1, t2⟩, ?_, wf_i64 v0, wf_i64 v1, wf_u32 v2⟩
    generalize (xs.drop (i * 3)).take 3 = ys at *
    match ys, hl3 with
    | [y0, y1, y2], _ => simp at g0 g1 g2; rw [g0, g1, g2]; rfl
  rw [cellsCase] at hl
  refine ⟨k, w', s, c, st, ia, il, ic, wri, ra, rl, rc, at_, op, rd_, qa, ql, qc, la, ll, lc, pa, pl, pc, ?_, hb, wf_i64 w8, wf_i64 w9, wf_i64 w10, init_open (n := n + 1) h0, ⟨z11, r11, x11⟩, ⟨z12, r12, x12⟩, ⟨ps, ?_, hpw⟩⟩
  · match cs, hl with
    | [y0, y1, y2, y3, y4, y5, y6, y7, y8, y9, y10, y11, y12, y13], _ =>
      simp at hcs h8 h9 h10 h11 h12 h13
      obtain ⟨rfl, rfl, rfl, rfl, rfl, rfl, rfl, rfl⟩ := hcs
      rw [h8, h9, h10, h11, h12, h13]
  · rw [hpl, ← hpx]; exact hx

def lightB (il rl ql ll pl : Nat) : Bool := decide (il ≤ 100 ∧ rl ≤ 100) && decide (ql ≤ 100) && decide (ll ≤ 400) && decide (pl ≤ 100)
set_option maxHeartbeats 2000000 in
theorem Light_any (k w s c st : Int) (ia : Option Addr) (il ic : Nat) (wri : Int) (ra : Option Addr) (rl rc : Nat) (at_ op rd_ : Int) (qa : Option Addr) (ql qc : Nat) (la : Option Addr) (ll lc : Nat) (pa : Option Addr) (pl pc : Nat) (W : World) :
    Calls Try.prog 17 #[.agg #[.int .i64 k, .int .i64 w, .int .i64 s, .int .i64 c, .int .u32 st, .slice ia il ic, .int .i64 wri, .slice ra rl rc, .int .i64 at_, .int .i64 op, .int .i64 rd_, .slice qa ql qc, .slice la ll lc, .slice pa pl pc]] W fun e W' => e = .returned (.bool (lightB il rl ql ll pl)) ∧ Chg [] W W' := by
  have key : ∀ b, decide (il ≤ 100 ∧ rl ≤ 100) = b → Calls Try.prog 17 #[.agg #[.int .i64 k, .int .i64 w, .int .i64 s, .int .i64 c, .int .u32 st, .slice ia il ic, .int .i64 wri, .slice ra rl rc, .int .i64 at_, .int .i64 op, .int .i64 rd_, .slice qa ql qc, .slice la ll lc, .slice pa pl pc]] W fun e W' => e = .returned (.bool (lightB il rl ql ll pl)) ∧ Chg [] W W' := by
    intro b hb
    generalize hr : lightB il rl ql ll pl = r
    have HR := Lib.hid hr
    have HB := Lib.hid hb
    clear hr hb
    have HBX : Hid (Blk (W.alloc (.cells #[.int .i64 k, .int .i64 w, .int .i64 s, .int .i64 c, .int .u32 st, .slice ia il ic, .int .i64 wri, .slice ra rl rc, .int .i64 at_, .int .i64 op, .int .i64 rd_, .slice qa ql qc, .slice la ll lc, .slice pa pl pc] 34)) W.heap.size #[.int .i64 k, .int .i64 w, .int .i64 s, .int .i64 c, .int .u32 st, .slice ia il ic, .int .i64 wri, .slice ra rl rc, .int .i64 at_, .int .i64 op, .int .i64 rd_, .slice qa ql qc, .slice la ll lc, .slice pa pl pc] 34) := Lib.hid (Blk.new W _ _)
    cases b
    all_goals
      go_enter Try.func17, Try.ntmps17
      go_wp2_with (go_at_call 8; refine (small_any k w s c st ia il ic wri ra rl rc _).mono ?_; rintro e w1 ⟨rfl, hc⟩; rw [HB.out]; have HC := Lib.hid (((Chg.refl [] W).alloc _).trans hc); have HB1 := Lib.hid (HBX.out.keep hc (by simp)); clear hc; have e11 : w1.cell? ⟨W.heap.size, 11, none⟩ = some (.slice qa ql qc) := HB1.out.cell rfl; have e12 : w1.cell? ⟨W.heap.size, 12, none⟩ = some (.slice la ll lc) := HB1.out.cell rfl; have e13 : w1.cell? ⟨W.heap.size, 13, none⟩ = some (.slice pa pl pc) := HB1.out.cell rfl)
      all_goals (go_ret; refine ⟨?_, HC.out⟩; rw [← HR.out]; refine ret_bool ?_; unfold lightB; rw [HB.out]; rw [Bool.eq_iff_iff]; (first | (simp; done) | (simp; omega) | (simp_all; done) | (simp_all; omega) | (trace_state; fail)))
  exact key _ rfl
end Go.Proofs.Ytjplamoofkcojaa.obj

/- What others do to a memory, and to a list of its words. -/
namespace Go.Proofs.Ytjplamoofkcojaa.obj
open Go Go.RowKit Go.Proofs.Ytjplamoofkcojaa.kit Go.Proofs.Ytjplamoofkcojaa.mem
set_option linter.unusedVariables false
set_option linter.unusedSimpArgs false
set_option maxRecDepth 20000

def pokeOne (turn : Int) (ws : List Int) (p : Poke) : List Int := if p.turn = turn ∧ 0 ≤ p.at_ ∧ p.at_ < ws.length then ws.set p.at_.toNat p.w else ws
/-- the words behind what others do ahead of a turn -/
def pokeL (turn : Int) (ps : List Poke) (ws : List Int) : List Int := ps.foldl (pokeOne turn) ws
theorem pokeOne_length (turn : Int) (ws : List Int) (p : Poke) : (pokeOne turn ws p).length = ws.length := by unfold pokeOne; split <;> simp
theorem pokeL_length (turn : Int) (ps : List Poke) (ws : List Int) : (pokeL turn ps ws).length = ws.length := by
  unfold pokeL
  induction ps generalizing ws with
  | nil => rfl
  | cons p r ih => rw [List.foldl_cons, ih, pokeOne_length]
theorem pokeL_succ (turn : Int) (ps : List Poke) (ws : List Int) (k : Nat) (p : Poke) (h : ps[k]? = some p) : pokeL turn (ps.take (k + 1)) ws = pokeOne turn (pokeL turn (ps.take k) ws) p := by
  have hk : k < ps.length := by
    rcases Nat.lt_or_ge k ps.length with h1 | h1
    · exact h1
    · rw [List.getElem?_eq_none h1] at h; cases h
  rw [List.getElem?_eq_getElem hk] at h
  cases h
  unfold pokeL
  rw [List.take_succ_eq_append_getElem hk, List.foldl_append]
  rfl
theorem OwnW.put {w : World} {g c : Nat} {ws : List Int} (h : OwnW w 0 (.slice (some ⟨g, 0, none⟩) ws.length c) ws) (i : Nat) (x : Int) : OwnW (w.setCell ⟨g, i, none⟩ (.int .u32 x)) 0 (.slice (some ⟨g, 0, none⟩) ws.length c) (ws.set i x) := by
  have hs := (World.ownsRow.stored h i (.int .u32 x)).1
  have hl : (ws.set i x).length = ws.length := by simp
  unfold OwnW
  rw [hl, List.map_set]
  exact hs
theorem szPoke : (Try.prog.info? 41).map (·.size) = some 3 := by kernel_rfl
theorem pokeWf {u : Int} (h : 0 ≤ u ∧ u ≤ 4294967295) : (Lit.int .u32 u).wf = true := by simp [Lit.wf, IntKind.min, IntKind.max, IntKind.signed, IntKind.bits]; omega
theorem ReadsP.lt {w : World} {v : Value} {ps : List Poke} (h : ReadsP w v ps) (hp : 0 < ps.length) : ∀ y, v.ownBlock = some y → y < w.heap.size := by
  intro y hy
  obtain ⟨hl, _, ⟨h0, _⟩ | ⟨_, b, off, c, rfl, _, _, hx⟩⟩ := h.1
  · omega
  · simp [Value.ownBlock] at hy
    subst hy
    have hlen : 0 < (ps.flatMap Poke.cells).length := by omega
    exact World.block_lt_of_cell? w _ (hx 0 _ (List.getElem?_eq_getElem hlen))
end Go.Proofs.Ytjplamoofkcojaa.obj
