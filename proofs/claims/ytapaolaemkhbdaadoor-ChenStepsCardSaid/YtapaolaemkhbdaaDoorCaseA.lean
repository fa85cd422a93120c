/- Parts joined: ObjI, Case, Case2. -/
import Derived.Test.YtapaolaemkhbdaaDoorObjA
import Derived.Test.YtapaolaemkhbdaaDoorMemo
import Derived.Test.YtapaolaemkhbdaaDoorCore
import Derived.Deep.Cut
/- An object's first record, as an argument. -/
namespace Go.Proofs.YtapaolaemkhbdaaDoor.obj
open Go Go.RowKit Go.Proofs.YtapaolaemkhbdaaDoor.kit Go.Proofs.YtapaolaemkhbdaaDoor.mem
set_option linter.unusedVariables false
set_option linter.unusedSimpArgs false
set_option maxRecDepth 20000

theorem init_open {w : World} {n : Nat} {k w' s c st : Int} {ia : Option Addr} {il ic : Nat} {wr : Int} {ra : Option Addr} {rl rc : Nat}
    (h : kit.Opens Tryd.prog w (n + 3) 26 [.int .i64 k, .int .i64 w', .int .i64 s, .int .i64 c, .int .u32 st, .slice ia il ic, .int .i64 wr, .slice ra rl rc]) : ∃ ini, ReadsW w (.slice ia il ic) ini := by
  have h5 := h.field Tryd.underlying26 5 _ rfl 5 1 rfl cellsWs
  obtain ⟨zs, _, hr, hw⟩ := kit.Opens.ints (n := n) (a := ia) (len := il) (cap := ic) (by simpa using h5) Tryd.underlying23 Tryd.underlying22 cellsU32
  exact ⟨zs, hr, hw⟩
end Go.Proofs.YtapaolaemkhbdaaDoor.obj

/- A case: an operation on an object, a memory's words, and what others do. -/
namespace Go.Proofs.YtapaolaemkhbdaaDoor.obj
open Go Go.RowKit Go.Proofs.YtapaolaemkhbdaaDoor.kit Go.Proofs.YtapaolaemkhbdaaDoor.mem
set_option linter.unusedVariables false
set_option linter.unusedSimpArgs false
set_option maxRecDepth 20000

theorem cellsCase : Tryd.prog.cellsOf 36 = 14 := by kernel_rfl
theorem cellsPoke : Tryd.prog.cellsOf 81 = 3 := by kernel_rfl
theorem cellsPokes : Tryd.prog.cellsOf 34 = 1 := by kernel_rfl
structure Poke where
  turn : Int
  at_ : Int
  w : Int
def Poke.cells (p : Poke) : List Value := [.int .i64 p.turn, .int .i64 p.at_, .int .u32 p.w]
def Poke.ok (p : Poke) : Prop := (-9223372036854775808 ≤ p.turn ∧ p.turn ≤ 9223372036854775807) ∧ (-9223372036854775808 ≤ p.at_ ∧ p.at_ ≤ 9223372036854775807) ∧ (0 ≤ p.w ∧ p.w ≤ 4294967295)
/-- the pokes of a case, in memory -/
def ReadsP (w : World) (v : Value) (ps : List Poke) : Prop := Reads w 3 v ps.length (ps.flatMap Poke.cells) ∧ ∀ p ∈ ps, p.ok
theorem ReadsP.chg {w w' : World} {v : Value} {ps : List Poke} (h : ReadsP w v ps) (k : Chg [] w w') : ReadsP w' v ps := ⟨h.1.fresh k, h.2⟩
theorem case_open {w : World} {n : Nat} {cs : List Value} (h : kit.Opens Tryd.prog w (n + 5) 36 cs) :
    ∃ (k w' s c st : Int) (ia : Option Addr) (il ic : Nat) (wri : Int) (ra : Option Addr) (rl rc : Nat) (at_ op rd_ : Int) (qa : Option Addr) (ql qc : Nat) (la : Option Addr) (ll lc : Nat) (pa : Option Addr) (pl pc : Nat) ,
      cs = [.int .i64 k, .int .i64 w', .int .i64 s, .int .i64 c, .int .u32 st, .slice ia il ic, .int .i64 wri, .slice ra rl rc, .int .i64 at_, .int .i64 op, .int .i64 rd_, .slice qa ql qc, .slice la ll lc, .slice pa pl pc] ∧ (il ≤ 100 → rl ≤ 100 → ObjW k w' s c st il rl) ∧ (-9223372036854775808 ≤ at_ ∧ at_ ≤ 9223372036854775807) ∧ (-9223372036854775808 ≤ op ∧ op ≤ 9223372036854775807) ∧ (-9223372036854775808 ≤ rd_ ∧ rd_ ≤ 9223372036854775807) ∧
      (∃ ini, ReadsW w (.slice ia il ic) ini) ∧ (∃ rec, ReadsW w (.slice qa ql qc) rec) ∧ (∃ l, ReadsW w (.slice la ll lc) l) ∧ ∃ ps, ReadsP w (.slice pa pl pc) ps := by
  have hl := (h.struct Tryd.underlying36).1
  have h0 := h.field Tryd.underlying36 0 _ rfl 0 8 rfl cellsO
  obtain ⟨k, w', s, c, st, ia, il, ic, wri, ra, rl, rc, hcs, hb⟩ := obj_open (n := n + 1) h0
  rw [hcs] at h0
  obtain ⟨at_, h8, w8⟩ := (h.field Tryd.underlying36 1 _ rfl 8 1 rfl cellsInt).int Tryd.underlying3
  obtain ⟨op, h9, w9⟩ := (h.field Tryd.underlying36 2 _ rfl 9 1 rfl cellsInt).int Tryd.underlying3
  obtain ⟨rd_, h10, w10⟩ := (h.field Tryd.underlying36 3 _ rfl 10 1 rfl cellsInt).int Tryd.underlying3
  have o11 := h.field Tryd.underlying36 4 _ rfl 11 1 rfl cellsWs
  have o12 := h.field Tryd.underlying36 5 _ rfl 12 1 rfl cellsWs
  have o13 := h.field Tryd.underlying36 6 _ rfl 13 1 rfl cellsPokes
  obtain ⟨qa, ql, qc, h11⟩ := o11.isSlice Tryd.underlying23 (by rw [cellsU32]; decide)
  obtain ⟨la, ll, lc, h12⟩ := o12.isSlice Tryd.underlying23 (by rw [cellsU32]; decide)
  obtain ⟨pa, pl, pc, h13⟩ := o13.isSlice Tryd.underlying34 (by rw [cellsPoke]; decide)
  rw [h11] at o11
  rw [h12] at o12
  rw [h13] at o13
  obtain ⟨z11, _, r11, x11⟩ := kit.Opens.ints (n := n + 2) o11 Tryd.underlying23 Tryd.underlying22 cellsU32
  obtain ⟨z12, _, r12, x12⟩ := kit.Opens.ints (n := n + 2) o12 Tryd.underlying23 Tryd.underlying22 cellsU32
  obtain ⟨xs, hx, hxs⟩ := kit.Opens.slice (n := n + 3) o13 Tryd.underlying34 cellsPoke (by decide)
  obtain ⟨ps, hpl, hpx, hpw⟩ := rows_of Poke.cells Poke.ok 3 (fun _ => rfl) pl xs hx.1 fun i hi => by
    have hp := hxs i hi
    have hl3 := (hp.struct Tryd.underlying81).1
    obtain ⟨t0, g0, v0⟩ := (hp.field Tryd.underlying81 0 _ rfl 0 1 rfl cellsInt).int Tryd.underlying3
    obtain ⟨t1, g1, v1⟩ := (hp.field Tryd.underlying81 1 _ rfl 1 1 rfl cellsInt).int Tryd.underlying3
    obtain ⟨t2, g2, v2⟩ := (hp.field Tryd.underlying81 2 _ rfl 2 1 rfl cellsU32).int Tryd.underlying22
    rw [cellsPoke] at hl3
    refine ⟨⟨t0, t1, t2⟩, ?_, wf_i64 v0, wf_i64 v1, wf_u32 v2⟩
    generalize (xs.drop (i * 3)).take 3 = ys at *
    match ys, hl3 with
    | [y0, y1, y2], _ => simp at g0 g1 g2; rw [g0, g1, g2]; rfl
  rw [cellsCase] at hl
  refine ⟨k, w', s, c, st, ia, il, ic, wri, ra, rl, rc, at_, op, rd_, qa, ql, qc, la, ll, lc, pa, pl, pc, ?_, hb, wf_i64 w8, wf_i64 w9, wf_i64 w10, init_open (n := n + 1) h0, ⟨z11, r11, x11⟩, ⟨z12, r12, x12⟩, ⟨ps, ?_, hpw⟩⟩
  · match cs, hl with
    | [y0, y1, y2, y3, y4, y5, y6, y7, y8, y9, y10, y11, y12, y13], _ =>
      simp at hcs h8 h9 h10 h11 h12 h13
      obtain ⟨rfl, rfl, rfl, rfl, rfl, rfl, rfl, rfl⟩ := hcs
      rw [h8, h9, h10, h11, h12, h13]
  · rw [hpl, ← hpx]; exact hx

def lightB (il rl ql ll pl : Nat) : Bool := decide (il ≤ 100 ∧ rl ≤ 100) && decide (ql ≤ 100) && decide (ll ≤ 400) && decide (pl ≤ 100)
set_option maxHeartbeats 2000000 in
theorem Light_any (k w s c st : Int) (ia : Option Addr) (il ic : Nat) (wri : Int) (ra : Option Addr) (rl rc : Nat) (at_ op rd_ : Int) (qa : Option Addr) (ql qc : Nat) (la : Option Addr) (ll lc : Nat) (pa : Option Addr) (pl pc : Nat) (W : World) :
    Calls Tryd.prog 29 #[.agg #[.int .i64 k, .int .i64 w, .int .i64 s, .int .i64 c, .int .u32 st, .slice ia il ic, .int .i64 wri, .slice ra rl rc, .int .i64 at_, .int .i64 op, .int .i64 rd_, .slice qa ql qc, .slice la ll lc, .slice pa pl pc]] W fun e W' => e = .returned (.bool (lightB il rl ql ll pl)) ∧ Chg [] W W' := by
  have key : ∀ b, decide (il ≤ 100 ∧ rl ≤ 100) = b → Calls Tryd.prog 29 #[.agg #[.int .i64 k, .int .i64 w, .int .i64 s, .int .i64 c, .int .u32 st, .slice ia il ic, .int .i64 wri, .slice ra rl rc, .int .i64 at_, .int .i64 op, .int .i64 rd_, .slice qa ql qc, .slice la ll lc, .slice pa pl pc]] W fun e W' => e = .returned (.bool (lightB il rl ql ll pl)) ∧ Chg [] W W' := by
    intro b hb
    generalize hr : lightB il rl ql ll pl = r
    have HR := Lib.hid hr
    have HB := Lib.hid hb
    clear hr hb
    have HBX : Hid (Blk (W.alloc (.cells #[.int .i64 k, .int .i64 w, .int .i64 s, .int .i64 c, .int .u32 st, .slice ia il ic, .int .i64 wri, .slice ra rl rc, .int .i64 at_, .int .i64 op, .int .i64 rd_, .slice qa ql qc, .slice la ll lc, .slice pa pl pc] 36)) W.heap.size #[.int .i64 k, .int .i64 w, .int .i64 s, .int .i64 c, .int .u32 st, .slice ia il ic, .int .i64 wri, .slice ra rl rc, .int .i64 at_, .int .i64 op, .int .i64 rd_, .slice qa ql qc, .slice la ll lc, .slice pa pl pc] 36) := Lib.hid (Blk.new W _ _)
    cases b
    all_goals
      go_enter Tryd.func29, Tryd.ntmps29
      go_wp2_with (go_at_call 13; refine (small_any k w s c st ia il ic wri ra rl rc _).mono ?_; rintro e w1 ⟨rfl, hc⟩; rw [HB.out]; have HC := Lib.hid (((Chg.refl [] W).alloc _).trans hc); have HB1 := Lib.hid (HBX.out.keep hc (by simp)); clear hc; have e11 : w1.cell? ⟨W.heap.size, 11, none⟩ = some (.slice qa ql qc) := HB1.out.cell rfl; have e12 : w1.cell? ⟨W.heap.size, 12, none⟩ = some (.slice la ll lc) := HB1.out.cell rfl; have e13 : w1.cell? ⟨W.heap.size, 13, none⟩ = some (.slice pa pl pc) := HB1.out.cell rfl)
      all_goals (go_ret; refine ⟨?_, HC.out⟩; rw [← HR.out]; refine ret_bool ?_; unfold lightB; rw [HB.out]; rw [Bool.eq_iff_iff]; (first | (simp; done) | (simp; omega) | (simp_all; done) | (simp_all; omega) | (trace_state; fail)))
  exact key _ rfl
end Go.Proofs.YtapaolaemkhbdaaDoor.obj

/- What others do to a memory, and to a list of its words. -/
namespace Go.Proofs.YtapaolaemkhbdaaDoor.obj
open Go Go.RowKit Go.Proofs.YtapaolaemkhbdaaDoor.kit Go.Proofs.YtapaolaemkhbdaaDoor.mem
set_option linter.unusedVariables false
set_option linter.unusedSimpArgs false
set_option maxRecDepth 20000

def pokeOne (turn : Int) (ws : List Int) (p : Poke) : List Int := if p.turn = turn ∧ 0 ≤ p.at_ ∧ p.at_ < ws.length then ws.set p.at_.toNat p.w else ws
/-- the words behind what others do ahead of a turn -/
def pokeL (turn : Int) (ps : List Poke) (ws : List Int) : List Int := ps.foldl (pokeOne turn) ws
theorem pokeOne_length (turn : Int) (ws : List Int) (p : Poke) : (pokeOne turn ws p).length = ws.length := by unfold pokeOne; split <;> simp
theorem pokeL_length (turn : Int) (ps : List Poke) (ws : List Int) : (pokeL turn ps ws).length = ws.length := by
  unfold pokeL
  induction ps generalizing ws with
  | nil => rfl
  | cons p r ih => rw [List.foldl_cons, ih, pokeOne_length]
theorem pokeL_succ (turn : Int) (ps : List Poke) (ws : List Int) (k : Nat) (p : Poke) (h : ps[k]? = some p) : pokeL turn (ps.take (k + 1)) ws = pokeOne turn (pokeL turn (ps.take k) ws) p := by
  have hk : k < ps.length := by
    rcases Nat.lt_or_ge k ps.length with h1 | h1
    · exact h1
    · rw [List.getElem?_eq_none h1] at h; cases h
  rw [List.getElem?_eq_getElem hk] at h
  cases h
  unfold pokeL
  rw [List.take_succ_eq_append_getElem hk, List.foldl_append]
  rfl
theorem OwnW.put {w : World} {g c : Nat} {ws : List Int} (h : OwnW w 0 (.slice (some ⟨g, 0, none⟩) ws.length c) ws) (i : Nat) (x : Int) : OwnW (w.setCell ⟨g, i, none⟩ (.int .u32 x)) 0 (.slice (some ⟨g, 0, none⟩) ws.length c) (ws.set i x) := by
  have hs := (World.ownsRow.stored h i (.int .u32 x)).1
  have hl : (ws.set i x).length = ws.length := by simp
  unfold OwnW
  rw [hl, List.map_set]
  exact hs
theorem szPoke : (Tryd.prog.info? 81).map (·.size) = some 3 := by kernel_rfl
theorem pokeWf {u : Int} (h : 0 ≤ u ∧ u ≤ 4294967295) : (Lit.int .u32 u).wf = true := by simp [Lit.wf, IntKind.min, IntKind.max, IntKind.signed, IntKind.bits]; omega
theorem ReadsP.lt {w : World} {v : Value} {ps : List Poke} (h : ReadsP w v ps) (hp : 0 < ps.length) : ∀ y, v.ownBlock = some y → y < w.heap.size := by
  intro y hy
  obtain ⟨hl, _, ⟨h0, _⟩ | ⟨_, b, off, c, rfl, _, _, hx⟩⟩ := h.1
  · omega
  · simp [Value.ownBlock] at hy
    subst hy
    have hlen : 0 < (ps.flatMap Poke.cells).length := by omega
    exact World.block_lt_of_cell? w _ (hx 0 _ (List.getElem?_eq_getElem hlen))
set_option maxHeartbeats 4000000 in
theorem Poked_any (k w s c st : Int) (ia : Option Addr) (il ic : Nat) (wri : Int) (ra : Option Addr) (rl rc : Nat) (at_ op rd_ : Int) (qa : Option Addr) (ql qc : Nat) (la : Option Addr) (ll lc : Nat) (pa : Option Addr) (pl pc : Nat) (turn : Int) (mb : Nat) (sv lv : Value) (ps : List Poke) (ws ls : List Int) (n : Int) (W : World) (hp : ReadsP W (.slice pa pl pc) ps) (hpl : pl ≤ 100) (hm : MemAt W mb sv ws n) (hl : OwnW W 0 lv ls) (hlw : ls.length = ws.length) (hl4 : ws.length ≤ 400) (hn : 0 ≤ n ∧ n ≤ 1000000)
    (hlm : ∀ y, lv.ownBlock = some y → y ≠ mb ∧ sv.ownBlock ≠ some y) (hpf : 0 < pl → ∀ y, (Value.slice pa pl pc).ownBlock = some y → y ∉ (mb :: (sv.ownBlock.toList ++ lv.ownBlock.toList))) :
    Calls Tryd.prog 34 #[.agg #[.int .i64 k, .int .i64 w, .int .i64 s, .int .i64 c, .int .u32 st, .slice ia il ic, .int .i64 wri, .slice ra rl rc, .int .i64 at_, .int .i64 op, .int .i64 rd_, .slice qa ql qc, .slice la ll lc, .slice pa pl pc], .int .i64 turn, .pointer (some ⟨mb, 0, none⟩), lv] W fun e W' => e = .returned (.tuple #[]) ∧ ∃ n', (0 ≤ n' ∧ n' ≤ n + 100) ∧ MemAt W' mb sv (pokeL turn ps ws) n' ∧ OwnW W' 0 lv (pokeL turn ps ls) ∧ Chg (mb :: (sv.ownBlock.toList ++ lv.ownBlock.toList)) W W' := by
  obtain ⟨bb, off, hix, hcell, hown⟩ := reads_index (P := Tryd.prog) Tryd.underlying34 szPoke hp.1
  have hpn : pl = ps.length := by obtain ⟨_, _, he, _⟩ := reads_slice hp.1; simp at he; exact he.2.1
  obtain ⟨la2, lc2, rfl, _⟩ := reads_slice (Reads.of_own hl (by decide))
  have HX := Lib.hid hix
  have HC := Lib.hid hcell
  have HPW := Lib.hid hp.2
  have HPN := Lib.hid hpn
  have HM := Lib.hid hm
  have HLR := Lib.hid hl
  have HN := Lib.hid hn
  have HPL := Lib.hid hpl
  have HL4 := Lib.hid hl4
  have HLW := Lib.hid hlw
  have HLM := Lib.hid hlm
  have HPB : Hid (0 < pl → ∀ V, Chg (mb :: (sv.ownBlock.toList ++ (Value.slice la2 ls.length lc2).ownBlock.toList)) W V → ∀ i u, (ps.flatMap Poke.cells)[i]? = some u → V.cell? ⟨bb, off + i, none⟩ = some u) := Lib.hid (fun h0 V hV i u hu => by
    refine hV.keep (hcell i u hu) ?_
    have hb : (Value.slice pa pl pc).ownBlock = some bb := hown (by omega)
    exact hpf h0 bb hb)
  clear hlw hix hcell hown hp hpn hm hl hn hpl hlm hpf hl4
  go_enter Tryd.func34, Tryd.ntmps34
  go_wp2_with fail
  go_loopw [9, 13] (fun _ i wr => ∃ (j : Nat) (n' : Int), j ≤ pl ∧ i = .int .i64 j ∧ Hid (0 ≤ n' ∧ n' ≤ n + j) ∧ Hid (MemAt wr mb sv (pokeL turn (ps.take j) ws) n') ∧ Hid (OwnW wr 0 (.slice la2 ls.length lc2) (pokeL turn (ps.take j) ls)) ∧ Hid (Chg (mb :: (sv.ownBlock.toList ++ (Value.slice la2 ls.length lc2).ownBlock.toList)) W wr)) (fun _ i _ => pl - (intOf i).toNat)
  case atStart => exact ⟨0, n, Nat.zero_le _, rfl, Lib.hid (by have := HN.out; omega), Lib.hid (HM.out.fresh ((Chg.refl _ _).alloc _)), Lib.hid (mem.own_chg HLR.out ((Chg.refl [] _).alloc _) (by simp)), Lib.hid ((Chg.refl _ _).alloc _)⟩
  case round =>
    obtain ⟨j, n', hj, rfl, HNJ, HMJ, HLJ, HCJ⟩ := hrel
    by_cases hlt : j < pl
    · have HLT := Lib.hid hlt
      have g1 := HX.out j (by have := HPN.out; omega)
      obtain ⟨⟨pt, pp, pw⟩, hpk⟩ : ∃ p, ps[j]? = some p := ⟨_, List.getElem?_eq_getElem (by have := HPN.out; omega)⟩
      have q0 := HPB.out (by omega) _ HCJ.out (j * 3 + 0) _ (by rw [flatMap_get Poke.cells 3 (fun _ => rfl) ps j 0 (by decide) _ hpk]; rfl)
      have q1 := HPB.out (by omega) _ HCJ.out (j * 3 + 1) _ (by rw [flatMap_get Poke.cells 3 (fun _ => rfl) ps j 1 (by decide) _ hpk]; rfl)
      have q2 := HPB.out (by omega) _ HCJ.out (j * 3 + 2) _ (by rw [flatMap_get Poke.cells 3 (fun _ => rfl) ps j 2 (by decide) _ hpk]; rfl)
      rw [Nat.add_zero] at q0
      rw [← Nat.add_assoc] at q1 q2
      have HSU := Lib.hid (pokeL_succ turn ps ws j _ hpk)
      have HSL := Lib.hid (pokeL_succ turn ps ls j _ hpk)
      have HWF := Lib.hid (HPW.out _ (List.mem_of_getElem? hpk)).2.2
      have hj100 : (j : Int) < 100 := by have := HPL.out; omega
      have HWL : Hid ((pokeL turn (ps.take j) ws).length = ws.length) := Lib.hid (pokeL_length _ _ _)
      have HLL : Hid ((pokeL turn (ps.take j) ls).length = ls.length) := Lib.hid (pokeL_length _ _ _)
      obtain ⟨wj, hwj⟩ : ∃ wj, pokeL turn (ps.take j) ws = wj := ⟨_, rfl⟩
      obtain ⟨lj, hlj⟩ : ∃ lj, pokeL turn (ps.take j) ls = lj := ⟨_, rfl⟩
      rw [hwj] at HMJ HSU HWL
      rw [hlj] at HLJ HSL HLL
      clear hwj hlj hpk hj hlt
      by_cases hall : pt = turn ∧ 0 ≤ pp ∧ pp < (ls.length : Int)
      · obtain ⟨c1, c2, c3⟩ := hall
        have b1 : (pt == turn) = true := by simpa using c1
        have b2 : decide (0 ≤ pp) = true := by simpa using c2
        have b3 : decide (pp < (ls.length : Int)) = true := by simpa using c3
        have HSU2 : Hid (pokeL turn (ps.take (j + 1)) ws = wrL wj pp pw) := Lib.hid (by
          rw [HSU.out]; unfold pokeOne wrL; rw [HWL.out, ← HLW.out, if_pos ⟨c1, c2, c3⟩, if_pos ⟨c2, c3⟩])
        have HSL2 : Hid (pokeL turn (ps.take (j + 1)) ls = lj.set pp.toNat pw) := Lib.hid (by
          rw [HSL.out]; unfold pokeOne; rw [HLL.out, if_pos ⟨c1, c2, c3⟩])
        obtain ⟨pN, hpN⟩ : ∃ pN : Nat, pp = (pN : Int) := ⟨pp.toNat, by omega⟩
        subst hpN
        have hlow : pN < ls.length := by omega
        obtain ⟨g, hg⟩ : ∃ g, la2 = some ⟨g, 0, none⟩ := by
          rcases HLR.out.2 with ⟨he, h0⟩ | ⟨g, cap, cur, he, _⟩
          · omega
          · simp at he; exact ⟨g, he.1⟩
        subst hg
        have HGN : Hid (mb ∉ [g] ∧ ∀ y, sv.ownBlock = some y → y ∉ [g]) := Lib.hid (by
          have h1 := HLM.out g rfl
          refine ⟨by simp; exact Ne.symm h1.1, fun y hy => ?_⟩
          simp
          rintro rfl
          exact h1.2 hy)
        have HLJ2 : Hid (OwnW wr 0 (.slice (some ⟨g, 0, none⟩) lj.length lc2) lj) := Lib.hid (by have := HLJ.out; rwa [← HLL.out] at this)
        have eg : wr.cell? ⟨g, pN, none⟩ = some (.int .u32 (lj.getD pN 0)) := by
          have hw := HLL.out
          have := World.ownsRow.cellAt HLJ2.out pN (by omega)
          rw [this, List.getElem?_map, List.getElem?_eq_getElem (by omega)]
          simp [List.getD, (by omega : pN < lj.length)]
        have fg := World.ownsRow.frozenAt HLJ2.out pN
        have HCA : Hid (Chg [] wr (wr.alloc (.cells #[.int .i64 pt, .int .i64 (pN : Int), .int .u32 pw] 81))) := Lib.hid ((Chg.refl _ _).alloc _)
        have hgl : g < wr.heap.size := World.block_lt_of_cell? wr ⟨g, pN, none⟩ eg
        have fg2 : (wr.alloc (.cells #[.int .i64 pt, .int .i64 (pN : Int), .int .u32 pw] 81)).frozen? ⟨g, pN, none⟩ = false := by rw [HCA.out.frozen hgl (by simp)]; exact fg
        have eg2 : (wr.alloc (.cells #[.int .i64 pt, .int .i64 (pN : Int), .int .u32 pw] 81)).cell? ⟨g, pN, none⟩ = some (.int .u32 (lj.getD pN 0)) := HCA.out.keep eg (by simp)
        have hgl2 : ¬ wr.heap.size = g := by omega
        have hgl3 : ¬ g = wr.heap.size := by omega
        clear eg fg
        have HPLOW := Lib.hid hlow
        have hlowI : (pN : Int) < (ls.length : Int) := by omega
        clear c1 c2 c3
        go_wp2_with (go_at_call 67; refine (Write_any mb sv wj n' (pN : Int) pw _ (HMJ.out.keep (((Chg.refl [g] wr).setCell (p := ⟨g, pN, none⟩) (.inl (by simp)) _).alloc _) HGN.out.1 HGN.out.2) (by have := HNJ.out; have := HN.out; omega) (by have := HNJ.out; have := HN.out; omega) (pokeWf HWF.out)).mono ?_; rintro e w4 ⟨z4, n4, rfl, hm4, hn4, hn5, hc4⟩; have HM4 := Lib.hid hm4; have HN4 : Hid (0 ≤ n4 ∧ n4 ≤ n' + 1) := Lib.hid ⟨hn4, hn5⟩; have HC4 := Lib.hid hc4; clear hm4 hn4 hn5 hc4)
        have k9 : IntKind.i64.wrap ((j : Int) + 1) = (j : Int) + 1 := by rw [IntKind.wrap_i64]; omega
        have hltj := HLT.out
        go_wp2_with fail
        go_roundw
        case rel =>
          refine ⟨j + 1, n4, by omega, by go_num, Lib.hid (by have := HN4.out; have := HNJ.out; omega), Lib.hid (by rw [HSU2.out]; exact HM4.out), Lib.hid ?_, Lib.hid ?_⟩
          · rw [HSL2.out]
            have h2 := mem.own_chg (OwnW.put HLJ2.out pN pw) ((Chg.refl [] _).alloc (.cells #[.int .i64 pt, .int .i64 (pN : Int), .int .u32 pw] 81)) (by simp)
            rw [HLL.out] at h2
            exact mem.own_chg h2 HC4.out (fun y hy => by
              have h3 := HLM.out y hy
              simp
              exact ⟨h3.1, h3.2⟩)
          · exact ((HCJ.out.setCell (.inl (by simp [Value.ownBlock])) _).alloc _).trans (HC4.out.mono (by intro z hz; simp at hz ⊢; rcases hz with hz | hz <;> simp [hz]))
        case measure => simp [intOf]; omega
      · have hcase : ((pt == turn) = false) ∨ ((pt == turn) = true ∧ decide (0 ≤ pp) = false) ∨ ((pt == turn) = true ∧ decide (0 ≤ pp) = true ∧ decide (pp < (ls.length : Int)) = false) := by
          by_cases c1 : pt = turn
          · by_cases c2 : 0 ≤ pp
            · exact .inr (.inr ⟨by simpa using c1, by simpa using c2, by simp; omega⟩)
            · exact .inr (.inl ⟨by simpa using c1, by simpa using c2⟩)
          · exact .inl (by simpa using c1)
        have HSU3 : Hid (pokeL turn (ps.take (j + 1)) ws = wj) := Lib.hid (by
          rw [HSU.out]; unfold pokeOne; rw [HWL.out, ← HLW.out]; exact if_neg hall)
        have HSL3 : Hid (pokeL turn (ps.take (j + 1)) ls = lj) := Lib.hid (by
          rw [HSL.out]; unfold pokeOne; rw [HLL.out]; exact if_neg hall)
        clear hall
        have k9 : IntKind.i64.wrap ((j : Int) + 1) = (j : Int) + 1 := by rw [IntKind.wrap_i64]; omega
        rcases hcase with h1 | ⟨h1, h2⟩ | ⟨h1, h2, h3⟩
        all_goals
          go_wp2_with fail
          have hltj := HLT.out
          go_roundw
          case rel => exact ⟨j + 1, n', by omega, by go_num, Lib.hid (by have := HNJ.out; omega), Lib.hid (by rw [HSU3.out]; exact HMJ.out.fresh ((Chg.refl _ _).alloc _)), Lib.hid (by rw [HSL3.out]; exact mem.own_chg HLJ.out ((Chg.refl [] _).alloc _) (by simp)), Lib.hid (HCJ.out.alloc _)⟩
          case measure => simp [intOf]; omega
    · obtain rfl : j = pl := by omega
      clear hlt hj
      go_wp2_with fail
      go_end0
      have h1 := HMJ.out
      have h2 := HLJ.out
      rw [HPN.out, List.take_length] at h1 h2
      exact ⟨rfl, n', by have := HNJ.out; have := HPL.out; omega, h1, h2, HCJ.out⟩
end Go.Proofs.YtapaolaemkhbdaaDoor.obj
