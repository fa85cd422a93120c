/- The kernel: passes. -/
import Derived.Test.YtfkokbeloenfdaaDoorKrnT
namespace Go.Proofs.YtfkokbeloenfdaaDoor.krn
open Go Go.RowKit Go.Proofs.YtfkokbeloenfdaaDoor.kit Go.Shelf
set_option linter.unusedVariables false
set_option linter.unusedSimpArgs false
set_option maxRecDepth 20000
def askB (k : Kn) (i : Int) : Bool := decide (0 ≤ i ∧ i < k.l.length ∧ ((k.l[i.toNat]?).map (·.kind)).getD 0 = 2)
def perM (k : Kn) (i : Int) : Int := ((k.l[i.toNat]?).map (·.period)).getD 0
def freeB (k : Kn) (i : Int) : Bool := match k.last i with
  | some v => !decide (k.now - v < perM k i)
  | none => true
def passM (k : Kn) (i : Int) : Kn × Bool := if askB k i = true ∧ freeB k i = true then ({ k with last := upd k.last i (some k.now) }, true) else (k, false)
theorem passM_ok {k : Kn} {n : Nat} (h : KOK k n) (i : Int) : KOK (passM k i).1 n := by
  unfold passM
  split
  · refine ⟨h.led, h.ll, h.pl, h.now, h.due, h.dl, fun j v hv => ?_, h.st⟩
    dsimp only [upd] at hv
    split at hv
    · cases hv; have := h.now; omega
    · exact h.last j v hv
  · exact h
set_option maxHeartbeats 4000000 in
theorem passes_any (B kb n : Nat) (k : Kn) (q : KQ) (i : Int) (w : World) (h : KAt w B kb n k q) (hk : KOK k n) (hn : n < 20000) :
    Calls Tryd.prog 28 #[.pointer (some ⟨kb, 0, none⟩), .int .i64 i] w fun e w' => e = .returned (.bool (passM k i).2) ∧ KStep w B kb (n + 1) q w' (passM k i).1 q := by
  have HS := Lib.hid (⟨h, hk⟩ : _ ∧ _)
  obtain ⟨⟨c0, c1, c2, c3⟩, c4, c5, c6⟩ := h.cells
  obtain ⟨nl, hnl⟩ : ∃ z, k.l.length = z := ⟨_, rfl⟩
  have hll := hk.led.llen
  have hlle := hk.ll
  have hpos : 1 ≤ nl ∨ nl = 0 := by omega
  rw [hlle, hnl] at hll
  rw [hnl] at c0
  have HNO : Hid (askB k i = false → passM k i = (k, false)) := Lib.hid (fun h => by unfold passM; rw [if_neg (by rw [h]; simp)])
  have HREF : Hid (KStep w B kb (n + 1) q w k q) := Lib.hid ⟨⟨h.box, h.rl, h.rp, h.led.mono (Nat.le_succ n), h.ag, h.ml.mono (Nat.le_succ n), h.dj⟩, fun y hy => .inl hy, Chg.refl _ _⟩
  have HN := Lib.hid hn
  have HNL := Lib.hid hnl
  have now0 := hk.now.1
  have now1 := hk.now.2
  by_cases h0 : i < 0
  · have ha : askB k i = false := by unfold askB; simp; omega
    rw [HNO.out ha]
    clear h hk hn hlle hpos ha hnl
    go_enter Tryd.func28, Tryd.ntmps28
    go_wp2
    go_ret
    exact ⟨rfl, HREF.out⟩
  · by_cases h1 : (nl : Int) ≤ i
    · have ha : askB k i = false := by unfold askB; rw [hnl]; simp; omega
      rw [HNO.out ha]
      clear h hk hn hlle hpos ha hnl
      go_enter Tryd.func28, Tryd.ntmps28
      go_wp2
      go_ret
      exact ⟨rfl, HREF.out⟩
    · obtain ⟨j, rfl⟩ : ∃ j : Nat, i = (j : Int) := ⟨i.toNat, by omega⟩
      have hj : j < k.l.length := by omega
      obtain ⟨d, hd⟩ : ∃ d, k.l[j]? = some d := ⟨_, List.getElem?_eq_getElem hj⟩
      obtain ⟨gl, cl, hvl, hglB, hgl⟩ := own_addr h.rl (by omega)
      simp only [Value.slice.injEq] at hvl
      obtain ⟨hla, -, hlc⟩ := hvl
      have ix := index_at (size := 7) Tryd.underlying22 szTask gl nl q.lc j (by omega)
      have hrl := h.rl
      rw [hla] at hrl c0
      have d0 := (row_cell (enc := Tk.cells) (sz := 7) (fun _ => rfl) hrl j 0 (by decide) d hd _ rfl).1
      have d2 := (row_cell (enc := Tk.cells) (sz := 7) (fun _ => rfl) hrl j 2 (by decide) d hd _ rfl).1
      rw [Nat.add_zero] at d0
      obtain ⟨dk, hdk⟩ : ∃ z, d.kind = z := ⟨_, rfl⟩
      obtain ⟨dp, hdp⟩ : ∃ z, d.period = z := ⟨_, rfl⟩
      rw [hdk] at d0
      rw [hdp] at d2
      by_cases h2 : dk = 2
      · subst h2
        have ha : askB k (j : Int) = true := by unfold askB; rw [Int.toNat_natCast, hd]; simp [hdk]; omega
        have hpm : perM k (j : Int) = dp := by unfold perM; rw [Int.toNat_natCast, hd]; simp [hdp]
        have HI : Hid (I64 (j : Int)) := Lib.hid (i64_of (by omega) (by omega))
        have HLV : Hid (∀ v, k.last (j : Int) = some v → 0 ≤ v ∧ v ≤ 4096) := Lib.hid (fun v hv => hk.last _ v hv)
        have HDR := Lib.hid (fun V (hV : Chg [] w V) => (h.fresh hV).ml.put (i := (j : Int)) (v := k.now) (by omega) HI.out (i64_of (by omega) (by omega)))
        have m0 : ¬ (j : Int) < 0 := h0
        have m1 : ¬ (nl : Int) ≤ (j : Int) := h1
        cases hlast : k.last (j : Int) with
        | none =>
          have hp : passM k (j : Int) = ({ k with last := upd k.last (j : Int) (some k.now) }, true) := by unfold passM; rw [if_pos ⟨ha, by unfold freeB; rw [hlast]⟩]
          rw [hp]
          have HLA := Lib.hid hlast
          clear h hk hn hlle hpos ha hnl hp hrl hd hj hla hlc hglB hgl hdk hdp hpm h0 h1 hlast c1 c2 c3 c6
          go_enter Tryd.func28, Tryd.ntmps28
          go_wp2_with (at_lookup; refine wpList_look_ok _ rfl (.tmp 33) (.tmp 34) rfl q.mb n k.last rfl HS.out.1.ml (j : Int) rfl HI.out 0 (by rw [HLA.out]; rfl) false (by rw [HLA.out]; rfl) ?_)
          go_quiet (fail)
          go_wp2
          obtain ⟨w2, hrun, hm2, hc2⟩ := HDR.out (w.drewN (nq + 1)) ((Chg.refl [] w).drewN (nq + 1))
          go_region
          have HC2 : Hid (Chg [q.mb] w w2) := Lib.hid (((Chg.refl _ w).drewN (nq + 1)).trans hc2)
          have HM2 := Lib.hid hm2
          clear hrun hm2 hc2
          go_wp2
          go_ret
          exact ⟨rfl, HS.out.1.withLast (Nat.le_succ n) HC2.out _ HM2.out, fun y hy => .inl hy, HC2.out.mono (fun y hy => by rw [List.mem_singleton.1 hy]; simp [KQ.all, KQ.rest])⟩
        | some v =>
          have hv := HLV.out v hlast
          have hv0 := hv.1
          have hv1 := hv.2
          have HLA := Lib.hid hlast
          by_cases hp : k.now - v < dp
          · have hp2 : passM k (j : Int) = (k, false) := by unfold passM; rw [if_neg (by rintro ⟨-, h⟩; unfold freeB at h; rw [hlast] at h; simp [hpm, hp] at h)]
            rw [hp2]
            clear h hk hn hlle hpos ha hnl hp2 hrl hd hj hla hlc hglB hgl hdk hdp hpm h0 h1 hlast c1 c2 c3 c6 hv
            go_enter Tryd.func28, Tryd.ntmps28
            go_wp2_with (at_lookup; refine wpList_look_ok _ rfl (.tmp 33) (.tmp 34) rfl q.mb n k.last rfl HS.out.1.ml (j : Int) rfl HI.out v (by rw [HLA.out]; rfl) true (by rw [HLA.out]; rfl) ?_)
            go_quiet (fail)
            go_wp2
            go_ret
            exact ⟨rfl, HREF.out.fresh ((Chg.refl [] w).drewN nq)⟩
          · have hp2 : passM k (j : Int) = ({ k with last := upd k.last (j : Int) (some k.now) }, true) := by unfold passM; rw [if_pos ⟨ha, by unfold freeB; rw [hlast]; simp [hpm]; omega⟩]
            rw [hp2]
            clear h hk hn hlle hpos ha hnl hp2 hrl hd hj hla hlc hglB hgl hdk hdp hpm h0 h1 hlast c1 c2 c3 c6 hv
            go_enter Tryd.func28, Tryd.ntmps28
            go_wp2_with (at_lookup; refine wpList_look_ok _ rfl (.tmp 33) (.tmp 34) rfl q.mb n k.last rfl HS.out.1.ml (j : Int) rfl HI.out v (by rw [HLA.out]; rfl) true (by rw [HLA.out]; rfl) ?_)
            go_quiet (fail)
            go_wp2
            obtain ⟨w2, hrun, hm2, hc2⟩ := HDR.out (w.drewN (nq + 1)) ((Chg.refl [] w).drewN (nq + 1))
            go_region
            have HC2 : Hid (Chg [q.mb] w w2) := Lib.hid (((Chg.refl _ w).drewN (nq + 1)).trans hc2)
            have HM2 := Lib.hid hm2
            clear hrun hm2 hc2
            go_wp2
            go_ret
            exact ⟨rfl, HS.out.1.withLast (Nat.le_succ n) HC2.out _ HM2.out, fun y hy => .inl hy, HC2.out.mono (fun y hy => by rw [List.mem_singleton.1 hy]; simp [KQ.all, KQ.rest])⟩
      · have ha : askB k (j : Int) = false := by unfold askB; rw [Int.toNat_natCast, hd]; simp [hdk, h2]
        rw [HNO.out ha]
        have m2 : (dk == 2) = false := by simpa using h2
        have m3 : (dk != 2) = true := by simpa using h2
        clear h hk hn hlle hpos ha hnl hrl hd hj hla hlc hglB hgl hdk hdp c1 c2 c3 c6
        go_enter Tryd.func28, Tryd.ntmps28
        go_wp2
        go_ret
        exact ⟨rfl, HREF.out⟩
end Go.Proofs.YtfkokbeloenfdaaDoor.krn
