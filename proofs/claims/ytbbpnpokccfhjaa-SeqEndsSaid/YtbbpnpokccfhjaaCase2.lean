/- What others do to a memory, and to a list of its words. -/
import Derived.Test.YtbbpnpokccfhjaaCase
namespace Go.Proofs.Ytbbpnpokccfhjaa.obj
open Go Go.RowKit Go.Proofs.Ytbbpnpokccfhjaa.kit Go.Proofs.Ytbbpnpokccfhjaa.mem
set_option linter.unusedVariables false
set_option maxRecDepth 20000

def pokeOne (turn : Int) (ws : List Int) (p : Poke) : List Int := if p.turn = turn ∧ 0 ≤ p.at_ ∧ p.at_ < ws.length then ws.set p.at_.toNat p.w else ws
/-- the words behind what others do ahead of a turn -/
def pokeL (turn : Int) (ps : List Poke) (ws : List Int) : List Int := ps.foldl (pokeOne turn) ws
theorem pokeOne_length (turn : Int) (ws : List Int) (p : Poke) : (pokeOne turn ws p).length = ws.length := by unfold pokeOne; split <;> simp
theorem pokeL_length (turn : Int) (ps : List Poke) (ws : List Int) : (pokeL turn ps ws).length = ws.length := by
  unfold pokeL
  induction ps generalizing ws with
  | nil => rfl
  | cons p r ih => rw [List.foldl_cons, ih, pokeOne_length]
theorem pokeL_succ (turn : Int) (ps : List Poke) (ws : List Int) (k : Nat) (p : Poke) (h : ps[k]? = some p) : pokeL turn (ps.take (k + 1)) ws = pokeOne turn (pokeL turn (ps.take k) ws) p := by
  have hk : k < ps.length := by
    rcases Nat.lt_or_ge k ps.length with h1 | h1
    · exact h1
    · rw [List.getElem?_eq_none h1] at h; cases h
  rw [List.getElem?_eq_getElem hk] at h
  cases h
  unfold pokeL
  rw [List.take_succ_eq_append_getElem hk, List.foldl_append]
  rfl
theorem OwnW.put {w : World} {g c : Nat} {ws : List Int} (h : OwnW w 0 (.slice (some ⟨g, 0, none⟩) ws.length c) ws) (i : Nat) (x : Int) : OwnW (w.setCell ⟨g, i, none⟩ (.int .u32 x)) 0 (.slice (some ⟨g, 0, none⟩) ws.length c) (ws.set i x) := by
  have hs := (World.ownsRow.stored h i (.int .u32 x)).1
  have hl : (ws.set i x).length = ws.length := by simp
  unfold OwnW
  rw [hl, List.map_set]
  exact hs
theorem szPoke : (Try.prog.info? 81).map (·.size) = some 3 := by kernel_rfl
theorem pokeWf {u : Int} (h : 0 ≤ u ∧ u ≤ 4294967295) : (Lit.int .u32 u).wf = true := by simp [Lit.wf, IntKind.min, IntKind.max, IntKind.signed, IntKind.bits]; omega
theorem ReadsP.lt {w : World} {v : Value} {ps : List Poke} (h : ReadsP w v ps) (hp : 0 < ps.length) : ∀ y, v.ownBlock = some y → y < w.heap.size := by
  intro y hy
  obtain ⟨hl, _, ⟨h0, _⟩ | ⟨_, b, off, c, rfl, _, _, hx⟩⟩ := h.1
  · omega
  · simp [Value.ownBlock] at hy
    subst hy
    have hlen : 0 < (ps.flatMap Poke.cells).length := by omega
    exact World.block_lt_of_cell? w _ (hx 0 _ (List.getElem?_eq_getElem hlen))
set_option maxHeartbeats 4000000 in
theorem Poked_any (k w s c st : Int) (ia : Option Addr) (il ic : Nat) (wri : Int) (ra : Option Addr) (rl rc : Nat) (at_ op rd_ : Int) (qa : Option Addr) (ql qc : Nat) (la : Option Addr) (ll lc : Nat) (pa : Option Addr) (pl pc : Nat) (turn : Int) (mb : Nat) (sv lv : Value) (ps : List Poke) (ws ls : List Int) (n : Int) (W : World) (hp : ReadsP W (.slice pa pl pc) ps) (hpl : pl ≤ 100) (hm : MemAt W mb sv ws n) (hl : OwnW W 0 lv ls) (hlw : ls.length = ws.length) (hl4 : ws.length ≤ 400) (hn : 0 ≤ n ∧ n ≤ 1000000)
    (hlm : ∀ y, lv.ownBlock = some y → y ≠ mb ∧ sv.ownBlock ≠ some y) (hpf : 0 < pl → ∀ y, (Value.slice pa pl pc).ownBlock = some y → y ∉ (mb :: (sv.ownBlock.toList ++ lv.ownBlock.toList))) :
    Calls Try.prog 29 #[.agg #[.int .i64 k, .int .i64 w, .int .i64 s, .int .i64 c, .int .u32 st, .slice ia il ic, .int .i64 wri, .slice ra rl rc, .int .i64 at_, .int .i64 op, .int .i64 rd_, .slice qa ql qc, .slice la ll lc, .slice pa pl pc], .int .i64 turn, .pointer (some ⟨mb, 0, none⟩), lv] W fun e W' => e = .returned (.tuple #[]) ∧ ∃ n', (0 ≤ n' ∧ n' ≤ n + 100) ∧ MemAt W' mb sv (pokeL turn ps ws) n' ∧ OwnW W' 0 lv (pokeL turn ps ls) ∧ Chg (mb :: (sv.ownBlock.toList ++ lv.ownBlock.toList)) W W' := by
  obtain ⟨bb, off, hix, hcell, hown⟩ := reads_index (P := Try.prog) Try.underlying34 szPoke hp.1
  have hpn : pl = ps.length := by obtain ⟨_, _, he, _⟩ := reads_slice hp.1; simp at he; exact he.2.1
  obtain ⟨la2, lc2, rfl, _⟩ := reads_slice (Reads.of_own hl (by decide))
  have HX := Lib.hid hix
  have HC := Lib.hid hcell
  have HPW := Lib.hid hp.2
  have HPN := Lib.hid hpn
  have HM := Lib.hid hm
  have HLR := Lib.hid hl
  have HN := Lib.hid hn
  have HPL := Lib.hid hpl
  have HL4 := Lib.hid hl4
  have HLW := Lib.hid hlw
  have HLM := Lib.hid hlm
  have HPB : Hid (0 < pl → ∀ V, Chg (mb :: (sv.ownBlock.toList ++ (Value.slice la2 ls.length lc2).ownBlock.toList)) W V → ∀ i u, (ps.flatMap Poke.cells)[i]? = some u → V.cell? ⟨bb, off + i, none⟩ = some u) := Lib.hid (fun h0 V hV i u hu => by
    refine hV.keep (hcell i u hu) ?_
    have hb : (Value.slice pa pl pc).ownBlock = some bb := hown (by omega)
    exact hpf h0 bb hb)
  clear hlw hix hcell hown hp hpn hm hl hn hpl hlm hpf hl4
  go_enter Try.func29, Try.ntmps29
  go_wp2_with fail
  go_loopw [9, 13] (fun _ i wr => ∃ (j : Nat) (n' : Int), j ≤ pl ∧ i = .int .i64 j ∧ Hid (0 ≤ n' ∧ n' ≤ n + j) ∧ Hid (MemAt wr mb sv (pokeL turn (ps.take j) ws) n') ∧ Hid (OwnW wr 0 (.slice la2 ls.length lc2) (pokeL turn (ps.take j) ls)) ∧ Hid (Chg (mb :: (sv.ownBlock.toList ++ (Value.slice la2 ls.length lc2).ownBlock.toList)) W wr)) (fun _ i _ => pl - (intOf i).toNat)
  case atStart => exact ⟨0, n, Nat.zero_le _, rfl, Lib.hid (by have := HN.out; omega), Lib.hid (HM.out.fresh ((Chg.refl _ _).alloc _)), Lib.hid (mem.own_chg HLR.out ((Chg.refl [] _).alloc _) (by simp)), Lib.hid ((Chg.refl _ _).alloc _)⟩
  case round =>
    obtain ⟨j, n', hj, rfl, HNJ, HMJ, HLJ, HCJ⟩ := hrel
    by_cases hlt : j < pl
    · have HLT := Lib.hid hlt
      have g1 := HX.out j (by have := HPN.out; omega)
      obtain ⟨⟨pt, pp, pw⟩, hpk⟩ : ∃ p, ps[j]? = some p := ⟨_, List.getElem?_eq_getElem (by have := HPN.out; omega)⟩
      have q0 := HPB.out (by omega) _ HCJ.out (j * 3 + 0) _ (by rw [flatMap_get Poke.cells 3 (fun _ => rfl) ps j 0 (by decide) _ hpk]; rfl)
      have q1 := HPB.out (by omega) _ HCJ.out (j * 3 + 1) _ (by rw [flatMap_get Poke.cells 3 (fun _ => rfl) ps j 1 (by decide) _ hpk]; rfl)
      have q2 := HPB.out (by omega) _ HCJ.out (j * 3 + 2) _ (by rw [flatMap_get Poke.cells 3 (fun _ => rfl) ps j 2 (by decide) _ hpk]; rfl)
      rw [Nat.add_zero] at q0
      rw [← Nat.add_assoc] at q1 q2
      have HSU := Lib.hid (pokeL_succ turn ps ws j _ hpk)
      have HSL := Lib.hid (pokeL_succ turn ps ls j _ hpk)
      have HWF := Lib.hid (HPW.out _ (List.mem_of_getElem? hpk)).2.2
      have hj100 : (j : Int) < 100 := by have := HPL.out; omega
      have HWL : Hid ((pokeL turn (ps.take j) ws).length = ws.length) := Lib.hid (pokeL_length _ _ _)
      have HLL : Hid ((pokeL turn (ps.take j) ls).length = ls.length) := Lib.hid (pokeL_length _ _ _)
      obtain ⟨wj, hwj⟩ : ∃ wj, pokeL turn (ps.take j) ws = wj := ⟨_, rfl⟩
      obtain ⟨lj, hlj⟩ : ∃ lj, pokeL turn (ps.take j) ls = lj := ⟨_, rfl⟩
      rw [hwj] at HMJ HSU HWL
      rw [hlj] at HLJ HSL HLL
      clear hwj hlj hpk hj hlt
      by_cases hall : pt = turn ∧ 0 ≤ pp ∧ pp < (ls.length : Int)
      · obtain ⟨c1, c2, c3⟩ := hall
        have b1 : (pt == turn) = true := by simpa using c1
        have b2 : decide (0 ≤ pp) = true := by simpa using c2
        have b3 : decide (pp < (ls.length : Int)) = true := by simpa using c3
        have HSU2 : Hid (pokeL turn (ps.take (j + 1)) ws = wrL wj pp pw) := Lib.hid (by
          rw [HSU.out]; unfold pokeOne wrL; rw [HWL.out, ← HLW.out, if_pos ⟨c1, c2, c3⟩, if_pos ⟨c2, c3⟩])
        have HSL2 : Hid (pokeL turn (ps.take (j + 1)) ls = lj.set pp.toNat pw) := Lib.hid (by
          rw [HSL.out]; unfold pokeOne; rw [HLL.out, if_pos ⟨c1, c2, c3⟩])
        obtain ⟨pN, hpN⟩ : ∃ pN : Nat, pp = (pN : Int) := ⟨pp.toNat, by omega⟩
        subst hpN
        have hlow : pN < ls.length := by omega
        obtain ⟨g, hg⟩ : ∃ g, la2 = some ⟨g, 0, none⟩ := by
          rcases HLR.out.2 with ⟨he, h0⟩ | ⟨g, cap, cur, he, _⟩
          · omega
          · simp at he; exact ⟨g, he.1⟩
        subst hg
        have HGN : Hid (mb ∉ [g] ∧ ∀ y, sv.ownBlock = some y → y ∉ [g]) := Lib.hid (by
          have h1 := HLM.out g rfl
          refine ⟨by simp; exact Ne.symm h1.1, fun y hy => ?_⟩
          simp
          rintro rfl
          exact h1.2 hy)
        have HLJ2 : Hid (OwnW wr 0 (.slice (some ⟨g, 0, none⟩) lj.length lc2) lj) := Lib.hid (by have := HLJ.out; rwa [← HLL.out] at this)
        have eg : wr.cell? ⟨g, pN, none⟩ = some (.int .u32 (lj.getD pN 0)) := by
          have hw := HLL.out
          have := World.ownsRow.cellAt HLJ2.out pN (by omega)
          rw [this, List.getElem?_map, List.getElem?_eq_getElem (by omega)]
          simp [List.getD, (by omega : pN < lj.length)]
        have fg := World.ownsRow.frozenAt HLJ2.out pN
        have HCA : Hid (Chg [] wr (wr.alloc (.cells #[.int .i64 pt, .int .i64 (pN : Int), .int .u32 pw] 81))) := Lib.hid ((Chg.refl _ _).alloc _)
        have hgl : g < wr.heap.size := World.block_lt_of_cell? wr ⟨g, pN, none⟩ eg
        have fg2 : (wr.alloc (.cells #[.int .i64 pt, .int .i64 (pN : Int), .int .u32 pw] 81)).frozen? ⟨g, pN, none⟩ = false := by rw [HCA.out.frozen hgl (by simp)]; exact fg
        have eg2 : (wr.alloc (.cells #[.int .i64 pt, .int .i64 (pN : Int), .int .u32 pw] 81)).cell? ⟨g, pN, none⟩ = some (.int .u32 (lj.getD pN 0)) := HCA.out.keep eg (by simp)
        have hgl2 : ¬ wr.heap.size = g := by omega
        have hgl3 : ¬ g = wr.heap.size := by omega
        clear eg fg
        have HPLOW := Lib.hid hlow
        have hlowI : (pN : Int) < (ls.length : Int) := by omega
        clear c1 c2 c3
        go_wp2_with (go_at_call 63; refine (Write_any mb sv wj n' (pN : Int) pw _ (HMJ.out.keep (((Chg.refl [g] wr).setCell (p := ⟨g, pN, none⟩) (.inl (by simp)) _).alloc _) HGN.out.1 HGN.out.2) (by have := HNJ.out; have := HN.out; omega) (by have := HNJ.out; have := HN.out; omega) (pokeWf HWF.out)).mono ?_; rintro e w4 ⟨z4, n4, rfl, hm4, hn4, hn5, hc4⟩; have HM4 := Lib.hid hm4; have HN4 : Hid (0 ≤ n4 ∧ n4 ≤ n' + 1) := Lib.hid ⟨hn4, hn5⟩; have HC4 := Lib.hid hc4; clear hm4 hn4 hn5 hc4)
        have k9 : IntKind.i64.wrap ((j : Int) + 1) = (j : Int) + 1 := by rw [IntKind.wrap_i64]; omega
        have hltj := HLT.out
        go_wp2_with fail
        go_roundw
        case rel =>
          refine ⟨j + 1, n4, by omega, by go_num, Lib.hid (by have := HN4.out; have := HNJ.out; omega), Lib.hid (by rw [HSU2.out]; exact HM4.out), Lib.hid ?_, Lib.hid ?_⟩
          · rw [HSL2.out]
            have h2 := mem.own_chg (OwnW.put HLJ2.out pN pw) ((Chg.refl [] _).alloc (.cells #[.int .i64 pt, .int .i64 (pN : Int), .int .u32 pw] 81)) (by simp)
            rw [HLL.out] at h2
            exact mem.own_chg h2 HC4.out (fun y hy => by
              have h3 := HLM.out y hy
              simp
              exact ⟨h3.1, h3.2⟩)
          · exact ((HCJ.out.setCell (.inl (by simp [Value.ownBlock])) _).alloc _).trans (HC4.out.mono (by intro z hz; simp at hz ⊢; rcases hz with hz | hz <;> simp [hz]))
        case measure => simp [intOf]; omega
      · have hcase : ((pt == turn) = false) ∨ ((pt == turn) = true ∧ decide (0 ≤ pp) = false) ∨ ((pt == turn) = true ∧ decide (0 ≤ pp) = true ∧ decide (pp < (ls.length : Int)) = false) := by
          by_cases c1 : pt = turn
          · by_cases c2 : 0 ≤ pp
            · exact .inr (.inr ⟨by simpa using c1, by simpa using c2, by simp; omega⟩)
            · exact .inr (.inl ⟨by simpa using c1, by simpa using c2⟩)
          · exact .inl (by simpa using c1)
        have HSU3 : Hid (pokeL turn (ps.take (j + 1)) ws = wj) := Lib.hid (by
          rw [HSU.out]; unfold pokeOne; rw [HWL.out, ← HLW.out]; exact if_neg hall)
        have HSL3 : Hid (pokeL turn (ps.take (j + 1)) ls = lj) := Lib.hid (by
          rw [HSL.out]; unfold pokeOne; rw [HLL.out]; exact if_neg hall)
        clear hall
        have k9 : IntKind.i64.wrap ((j : Int) + 1) = (j : Int) + 1 := by rw [IntKind.wrap_i64]; omega
        rcases hcase with h1 | ⟨h1, h2⟩ | ⟨h1, h2, h3⟩
        all_goals
          go_wp2_with fail
          have hltj := HLT.out
          go_roundw
          case rel => exact ⟨j + 1, n', by omega, by go_num, Lib.hid (by have := HNJ.out; omega), Lib.hid (by rw [HSU3.out]; exact HMJ.out.fresh ((Chg.refl _ _).alloc _)), Lib.hid (by rw [HSL3.out]; exact mem.own_chg HLJ.out ((Chg.refl [] _).alloc _) (by simp)), Lib.hid (HCJ.out.alloc _)⟩
          case measure => simp [intOf]; omega
    · obtain rfl : j = pl := by omega
      clear hlt hj
      go_wp2_with fail
      go_end0
      have h1 := HMJ.out
      have h2 := HLJ.out
      rw [HPN.out, List.take_length] at h1 h2
      exact ⟨rfl, n', by have := HNJ.out; have := HPL.out; omega, h1, h2, HCJ.out⟩
end Go.Proofs.Ytbbpnpokccfhjaa.obj
