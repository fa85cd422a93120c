/- The kernel: Pick, steps. -/
import Derived.Test.YtfkokbeloenfdaaDoorKrnU
namespace Go.Proofs.YtfkokbeloenfdaaDoor.krn
open Go Go.RowKit Go.Proofs.YtfkokbeloenfdaaDoor.kit Go.Shelf
set_option linter.unusedVariables false
set_option linter.unusedSimpArgs false
set_option maxRecDepth 20000
def pickK (k : Kn) : Int := pickM k.prio k.led.act
set_option maxHeartbeats 4000000 in
theorem PickK_any (B kb n : Nat) (k : Kn) (q : KQ) (w : World) (h : KAt w B kb n k q) (hk : KOK k n) (hT : bitm.Tab w) (ho : k.opn = true) :
    Calls Tryd.prog 12 #[.pointer (some ⟨kb, 0, none⟩)] w fun e w' => e = .returned (.tuple #[.int .i64 (max (pickK k) 0), .bool (decide (0 ≤ pickK k))]) ∧ Chg [] w w' := by
  obtain ⟨⟨c0, c1, c2, c3⟩, c4, c5, c6⟩ := h.cells
  rw [ho] at c6
  obtain ⟨np, hnp⟩ : ∃ z, k.prio.length = z := ⟨_, rfl⟩
  have HA := Lib.hid (fun V (hV : Chg [] w V) => Active_any B q.lb n k.led q.lq V ((h.fresh hV).led))
  have HP := Lib.hid (fun V (hV : Chg [] w V) => Pick_any q.pa q.pc k.prio k.led.act V (Reads.of_own ((h.fresh hV).rp) (by decide)) hk.led.act (hT.keep hV) (fun i hi => by
    have h1 := bitsM_bit k.led.act (by have := hk.led.act; omega) i hi
    have h2 := (hk.led.now i h1).1
    rw [hk.ll] at h2; rw [hk.pl]; exact h2) (by have h1 := hk.led.llen; rw [hk.ll] at h1; rw [hk.pl]; omega))
  rw [hnp] at c1 HP
  obtain ⟨pk, hpk⟩ : ∃ z, pickK k = z := ⟨_, rfl⟩
  rw [show pickM k.prio k.led.act = pickK k from rfl, hpk] at HP
  rw [hpk]
  have HC := Lib.hid (⟨c1, c2⟩ : _ ∧ _)
  clear h hk hT ho hnp hpk c0 c3 c4 c5
  go_enter Tryd.func12, Tryd.ntmps12
  go_upto_region 3 with fail
  have hHeld : (fun V : World => Hid (Chg [] w V)) (World.drew w) := Lib.hid (Chg.refl _ _).drew
  refine wp_region_plan (fun V : World => Hid (Chg [] w V)) [(0, true, some 13), (1, true, some 14), (2, true, some 15), (3, true, some 16), (4, true, some 17), (5, true, some 18), (6, true, some 19), (7, true, some 20), (8, false, some 21), (9, false, some 22), (10, true, some 23), (11, true, some 24), (12, true, some 2), (13, true, some 3)] (by kernel_rfl) (by kernel_rfl) (by kernel_rfl) (by kernel_rfl) (fun d c a v w h => by cases d <;> exact h) hHeld ?_
  repeat (first
    | (refine planWp_read (v := ?_) rfl rfl ?_ ?_ ?_; rotate_left; (focus rfl); (focus (intro u hSw; (try dsimp only at hSw); have h1 := hSw.out.keep HC.out.1 (by simp); have h2 := hSw.out.keep HC.out.2 (by simp); go_simp; (try with_reducible rfl))); (try simp only [Act.put, List.setIfInBounds_toArray, List.set_cons_zero, List.set_cons_succ])))
  refine planWp_do rfl rfl ?_ (fun K hK => ?_)
  focus rfl
  go_simp
  go_wp2_with (go_at_call 30; refine (HA.out _ hHeld.out).mono ?_; rintro e w2 ⟨rfl, rfl⟩)
  refine hK.out _ _ ?_ (fun hHeld2 => ?_)
  focus exact hHeld
  clear hK K hHeld2
  try simp only [Act.put, List.setIfInBounds_toArray, List.set_cons_zero, List.set_cons_succ]
  refine planWp_do rfl rfl ?_ (fun K hK => ?_)
  focus rfl
  go_simp
  go_wp2_with (go_at_call 29; refine (HP.out _ hHeld.out).mono ?_; rintro e w2 ⟨rfl, hc2⟩; have HC2 := Lib.hid (hHeld.out.trans hc2); clear hc2)
  refine hK.out _ _ ?_ (fun hHeld2 => ?_)
  focus exact HC2
  clear hK K hHeld2
  try simp only [Act.put, List.setIfInBounds_toArray, List.set_cons_zero, List.set_cons_succ]
  repeat (first
    | (refine planWp_read (v := ?_) rfl rfl ?_ ?_ ?_; rotate_left; (focus rfl); (focus (intro u hSw; go_simp; (try with_reducible rfl))); (try simp only [Act.put, List.setIfInBounds_toArray, List.set_cons_zero, List.set_cons_succ])))
  refine planWp_nil ?_
  go_wp2
  refine bodyPost_ret (results_tmp2 rfl _ _ _) rfl ?_
  exact ⟨rfl, HC2.out⟩
end Go.Proofs.YtfkokbeloenfdaaDoor.krn
