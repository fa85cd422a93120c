/- The kernel: Close. -/
import Derived.Test.YtfkokbeloenfdaaDoorKrnW
namespace Go.Proofs.YtfkokbeloenfdaaDoor.krn
open Go Go.RowKit Go.Proofs.YtfkokbeloenfdaaDoor.kit Go.Shelf
set_option linter.unusedVariables false
set_option linter.unusedSimpArgs false
set_option maxRecDepth 20000
theorem pickS_mem (prio : List Int) : ∀ (l : List Nat) (b : Int), l.foldl (pickS prio) b = b ∨ ∃ i ∈ l, l.foldl (pickS prio) b = (i : Int)
  | [], b => .inl rfl
  | i :: l, b => by
    rw [List.foldl_cons]
    rcases pickS_mem prio l (pickS prio b i) with h | ⟨j, hj, h⟩
    · rw [h]
      unfold pickS
      split
      · exact .inr ⟨i, by simp, rfl⟩
      · split
        · exact .inr ⟨i, by simp, rfl⟩
        · exact .inl rfl
    · exact .inr ⟨j, by simp [hj], h⟩
theorem pickK_bit {k : Kn} {n : Nat} (h : KOK k n) (hp : 0 ≤ pickK k) : ∃ i : Nat, pickK k = (i : Int) ∧ k.led.act.testBit i = true := by
  rcases pickS_mem k.prio (bitsM k.led.act) (-1) with h1 | ⟨i, h1, h2⟩
  · have : pickK k = -1 := h1
    omega
  · exact ⟨i, h2, bitsM_bit _ (by have := h.led.act; omega) i h1⟩
def closeM (k : Kn) (at_ : Int) (ended : Bool) : Kn × List Ev :=
  if 0 ≤ pickK k then ({ (stepK k (pickK k).toNat at_ ended).1 with now := k.now + 1, opn := false }, (stepK k (pickK k).toNat at_ ended).2)
  else ({ k with now := k.now + 1, opn := false }, [k.ev 6 (-1) 0 0])
theorem stepK_keeps (k : Kn) (i : Nat) (at_ : Int) (ended : Bool) : (stepK k i at_ ended).1.now = k.now ∧ (stepK k i at_ ended).1.opn = k.opn ∧ (stepK k i at_ ended).1.l = k.l ∧ (stepK k i at_ ended).1.prio = k.prio := by
  unfold stepK
  split <;> exact ⟨rfl, rfl, rfl, rfl⟩
theorem KAt.tick {w : World} {B kb n : Nat} {k : Kn} {q : KQ} (h : KAt w B kb n k q) (now : Int) : KAt ((w.setCell ⟨kb, 5, none⟩ (.int .i64 now)).setCell ⟨kb, 6, none⟩ (.bool false)) B kb n { k with now := now, opn := false } q := by
  refine h.withBox (((Chg.refl _ w).setCell (.inl (by simp)) _).setCell (.inl (by simp)) _) now false ?_
  exact (h.box.set 5 (.int .i64 now)).set 6 (.bool false)
theorem KStep.tick {w w' : World} {B kb n : Nat} {k : Kn} {q q' : KQ} (h : KStep w B kb n q w' k q') (now : Int) : KStep w B kb n q ((w'.setCell ⟨kb, 5, none⟩ (.int .i64 now)).setCell ⟨kb, 6, none⟩ (.bool false)) { k with now := now, opn := false } q' :=
  ⟨h.at_.tick now, h.sub, (h.chg.setCell (.inl (by simp [KQ.all, KQ.rest])) _).setCell (.inl (by simp [KQ.all, KQ.rest])) _⟩
theorem own_two {w : World} {B s n kb : Nat} {T : TypeId} {v : Value} {xs : List Value} (h : w.ownsRow B T s v n xs) (hb : kb < B) (o1 o2 : Nat) (u1 u2 : Value) : ((w.setCell ⟨kb, o1, none⟩ u1).setCell ⟨kb, o2, none⟩ u2).ownsRow B T s v n xs :=
  own_keep h (L := [kb]) (((Chg.refl _ w).setCell (.inl (by simp)) _).setCell (.inl (by simp)) _) (fun y hy hm => by have h1 := (World.ownsRow.lt h y hy).1; have := List.mem_singleton.1 hm; omega)
set_option maxHeartbeats 4000000 in
theorem Close_any (B kb n : Nat) (k : Kn) (q : KQ) (at_ : Int) (ended : Bool) (w : World) (h : KAt w B kb n k q) (hk : KOK k n) (hT : bitm.Tab w) (ho : k.opn = true) (hB : B ≤ w.heap.size) :
    Calls Tryd.prog 14 #[.pointer (some ⟨kb, 0, none⟩), .int .i64 at_, .bool ended] w fun e w' => ∃ v, e = .returned v ∧ OwnE w' w.heap.size v (closeM k at_ ended).2 ∧ KStep w B kb n q w' (closeM k at_ ended).1 q := by
  obtain ⟨⟨c0, c1, c2, c3⟩, c4, c5, c6⟩ := h.cells
  rw [ho] at c6
  have HS := Lib.hid (⟨h, hk⟩ : _ ∧ _)
  have HLT := Lib.hid h.lt
  have HP := Lib.hid (fun V (hV : Chg [] w V) => PickK_any B kb n k q V (h.fresh hV) hk (hT.keep hV) ho)
  have now0 := hk.now.1
  have now1 := hk.now.2
  have h63 : k.now + 1 ≤ 9223372036854775807 := by omega
  have HBB := Lib.hid (⟨hB, hT⟩ : _ ∧ _)
  by_cases hp : 0 ≤ pickK k
  · obtain ⟨i, hi, hb⟩ := pickK_bit hk hp
    have HST := Lib.hid (fun V (hV : Chg [] w V) => step_any B kb n k q i at_ ended V (h.fresh hV) hk (hT.keep hV) hb (Nat.le_trans hB hV.size))
    have HM : Hid (closeM k at_ ended = ({ (stepK k i at_ ended).1 with now := k.now + 1, opn := false }, (stepK k i at_ ended).2)) := Lib.hid (by unfold closeM; rw [if_pos hp, hi, Int.toNat_natCast])
    rw [hi, show max (i : Int) 0 = (i : Int) by omega, show decide (0 ≤ (i : Int)) = true by simp] at HP
    obtain ⟨⟨k', evs⟩, hst⟩ : ∃ r, stepK k i at_ ended = r := ⟨_, rfl⟩
    have hkp := stepK_keeps k i at_ ended
    rw [hst] at HST HM hkp
    have HKP := Lib.hid hkp
    clear h hk hT ho hi hb hp hst hkp hB c0 c1 c2 c3 c4
    go_enter Tryd.func14, Tryd.ntmps14
    go_wp2_with (first
      | (go_at_call 25; refine (event_any kb k.now _ _ _ _ _ c5).mono ?_; rintro e w2 ⟨rfl, hc2⟩; have HC2 := Lib.hid hc2; clear hc2)
      | (go_at_call 12; refine (HP.out _ (HC2.out.alloc _)).mono ?_; rintro e w3 ⟨rfl, hc3⟩; have HC3 := Lib.hid ((HC2.out.alloc (.cells #[.int .i64 k.now, .int .i64 6, .int .i64 (-1), .int .i64 0, .int .i64 0] 41)).trans hc3); clear hc3)
      | (go_at_call 33; refine (HST.out w3 HC3.out).mono ?_; rintro e w4 ⟨v, rfl, ho4, hs4⟩; have HO4 := Lib.hid ho4; have HS4 := Lib.hid hs4; have d5 : w4.cell? ⟨kb, 5, none⟩ = some (.int .i64 k.now) := (by rw [← HKP.out.1]; exact hs4.at_.cells.2.2.1); have g5 := hs4.at_.box.free 5; have d6 := hs4.at_.cells.2.2.2; have g6 := hs4.at_.box.free 6; clear ho4 hs4))
    go_ret
    rw [HM.out]
    have hkb := HLT.out kb (by simp [KQ.all, KQ.rest])
    exact ⟨_, rfl, own_two (own_mono HO4.out HC3.out.size) hkb _ _ _ _, (KStep.pre HC3.out HS4.out).tick (k.now + 1)⟩
  · have HM : Hid (closeM k at_ ended = ({ k with now := k.now + 1, opn := false }, [k.ev 6 (-1) 0 0])) := Lib.hid (by unfold closeM; rw [if_neg hp])
    rw [show max (pickK k) 0 = 0 by omega, decide_eq_false hp] at HP
    have f5 := h.box.free 5
    have f6 := h.box.free 6
    clear h hk hT ho hp hB c0 c1 c2 c3 c4
    go_enter Tryd.func14, Tryd.ntmps14
    go_wp2_with (first
      | (go_at_call 25; refine (event_any kb k.now _ _ _ _ _ c5).mono ?_; rintro e w2 ⟨rfl, hc2⟩; have HC2 := Lib.hid hc2; clear hc2)
      | (go_at_call 12; refine (HP.out _ (HC2.out.alloc _)).mono ?_; rintro e w3 ⟨rfl, hc3⟩; have HC3 := Lib.hid ((HC2.out.alloc (.cells #[.int .i64 k.now, .int .i64 6, .int .i64 (-1), .int .i64 0, .int .i64 0] 41)).trans hc3); have HO3 : Hid (OwnE w3 w.heap.size (.slice (some ⟨w2.heap.size, 0, none⟩) 1 1) [k.ev 6 (-1) 0 0]) := Lib.hid (own_keep (own_new (Blk.new w2 #[.int .i64 k.now, .int .i64 6, .int .i64 (-1), .int .i64 0, .int .i64 0] 41) HC2.out.size rfl) hc3 (by simp)); have hk3 := HS.out.1.fresh HC3.out; have d5 : w3.cell? ⟨kb, 5, none⟩ = some (.int .i64 k.now) := hk3.cells.2.2.1; have g5 := hk3.box.free 5; have d6 := hk3.cells.2.2.2; have g6 := hk3.box.free 6; clear hc3 hk3))
    go_ret
    rw [HM.out]
    have hkb := HLT.out kb (by simp [KQ.all, KQ.rest])
    exact ⟨_, rfl, own_two HO3.out hkb _ _ _ _, ((KStep.refl HS.out.1).fresh HC3.out).tick (k.now + 1)⟩
end Go.Proofs.YtfkokbeloenfdaaDoor.krn
