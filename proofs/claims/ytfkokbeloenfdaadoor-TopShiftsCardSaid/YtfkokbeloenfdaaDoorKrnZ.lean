/- The kernel: steps; Close keeps what is asked. -/
import Derived.Test.YtfkokbeloenfdaaDoorKrnY
namespace Go.Proofs.YtfkokbeloenfdaaDoor.krn
open Go Go.RowKit Go.Proofs.YtfkokbeloenfdaaDoor.kit Go.Shelf
set_option linter.unusedVariables false
set_option linter.unusedSimpArgs false
set_option maxRecDepth 20000
def DemAt (w : World) (v : Value) (rows : List (List Int)) : Prop := ∃ vs : List Value, Reads w 1 v rows.length vs ∧ ∀ (j : Nat) (r : List Int), rows[j]? = some r → ∃ rv, vs[j]? = some rv ∧ Reads w 1 rv r.length (intV r)
theorem DemAt.fresh {w w' : World} {v : Value} {rows : List (List Int)} (h : DemAt w v rows) (c : Chg [] w w') : DemAt w' v rows := by
  obtain ⟨vs, h1, h2⟩ := h
  exact ⟨vs, h1.fresh c, fun j r hj => let ⟨rv, h3, h4⟩ := h2 j r hj; ⟨rv, h3, h4.fresh c⟩⟩
def stepsM (rows : List (List Int)) (i : Nat) (no : Int) : Int := match rows[i]? with
  | none => 1
  | some r => if (r.length : Int) ≤ no then 1 else max 1 (r.getD no.toNat 0)
theorem szSlInt : (Tryd.prog.info? 44).map (·.size) = some 1 := by kernel_rfl
set_option maxHeartbeats 2000000 in
theorem steps_any (v : Value) (rows : List (List Int)) (i : Nat) (no : Int) (w : World) (h : DemAt w v rows) (h0 : 0 ≤ no) (hi : i ≤ 20) :
    Calls Tryd.prog 15 #[v, .int .i64 (i : Int), .int .i64 no] w fun e w' => e = .returned (.int .i64 (stepsM rows i no)) ∧ Chg [] w w' := by
  obtain ⟨vs, hr, hrow⟩ := h
  obtain ⟨sa, sc, rfl⟩ := reads_open hr
  obtain ⟨b1, o1, hx1, hc1, -⟩ := reads_index (P := Tryd.prog) Tryd.underlying24 szSlInt hr
  obtain ⟨nr, hnr⟩ : ∃ z, rows.length = z := ⟨_, rfl⟩
  rw [hnr] at hx1 ⊢
  by_cases hil : i < nr
  · obtain ⟨r, hri⟩ : ∃ r, rows[i]? = some r := ⟨_, List.getElem?_eq_getElem (by omega)⟩
    obtain ⟨rv, hv, hrr⟩ := hrow i r hri
    obtain ⟨ra, rc, rfl⟩ := reads_open hrr
    obtain ⟨b2, o2, hx2, hc2, -⟩ := reads_index (P := Tryd.prog) Tryd.underlying44 szInt hrr
    have ix1 := hx1 i hil
    rw [Nat.mul_one] at ix1
    have q1 := hc1 i _ hv
    have m1 : ¬ (nr : Int) ≤ (i : Int) := by omega
    obtain ⟨nc, hnc⟩ : ∃ z, r.length = z := ⟨_, rfl⟩
    rw [hnc] at q1 hx2
    by_cases hno : (nc : Int) ≤ no
    · have hM : stepsM rows i no = 1 := by unfold stepsM; rw [hri]; simp only; rw [hnc, if_pos hno]
      rw [hM]
      clear hr hrow hx1 hc1 hnr hil hri hv hrr hx2 hc2 hnc hM h0
      go_enter Tryd.func15, Tryd.ntmps15
      go_wp2
      go_ret
      exact ⟨rfl, Chg.refl _ _⟩
    · obtain ⟨z, rfl⟩ : ∃ z : Nat, no = (z : Int) := ⟨no.toNat, by omega⟩
      have hz : z < r.length := by omega
      have ix2 := hx2 z (by omega)
      rw [Nat.mul_one] at ix2
      have q2 := hc2 z (.int .i64 (r.getD z 0)) (by rw [intV, List.getElem?_map, List.getD_eq_getElem?_getD, List.getElem?_eq_getElem hz]; rfl)
      obtain ⟨x, hx⟩ : ∃ x, r.getD z 0 = x := ⟨_, rfl⟩
      have hM : stepsM rows i (z : Int) = max 1 x := by unfold stepsM; rw [hri]; simp only; rw [hnc, if_neg hno, Int.toNat_natCast, hx]
      rw [hx] at q2
      rw [hM]
      have m2 : ¬ (nc : Int) ≤ (z : Int) := hno
      clear hr hrow hx1 hc1 hnr hil hri hv hrr hx2 hc2 hnc hM h0 hz hx
      go_enter Tryd.func15, Tryd.ntmps15
      go_wp2
      all_goals go_ret
      all_goals exact ⟨Go.Proofs.YtfkokbeloenfdaaDoor.word.ret_int (by omega), Chg.refl _ _⟩
  · have hM : stepsM rows i no = 1 := by unfold stepsM; rw [List.getElem?_eq_none (by omega)]
    rw [hM]
    have m1 : (nr : Int) ≤ (i : Int) := by omega
    clear hr hrow hx1 hc1 hnr hil hM h0
    go_enter Tryd.func15, Tryd.ntmps15
    go_wp2
    go_ret
    exact ⟨rfl, Chg.refl _ _⟩
theorem endM_ok {s : Led} {n : Nat} (h : LedOK s n) (i : Nat) (t : Int) (hb : s.act.testBit i = true) : LedOK (endM s i t) n ∧ (endM s i t).l = s.l := by
  obtain ⟨j, x, h1, h2, h3, h4⟩ := h.job hb
  have hi := bit_lt h.act hb
  have hs := h.setJob (s.nowj i) { s.get i with en := t + 1 } (by rw [h4]; exact h.fit x (List.mem_of_getElem? h2))
  refine ⟨⟨Nat.lt_of_le_of_lt (dropM_le _ _) h.act, hs.alen, h.olen, h.llen, h.cnt, fun j2 hj2 => ?_, hs.fit, h.fitl⟩, rfl⟩
  have hj3 : (dropM s.act i).testBit j2 = true := hj2
  rw [dropM_bit s.act i j2 (by omega) (by have := h.act; omega)] at hj3
  simp at hj3
  obtain ⟨g1, g2, g3, g4⟩ := h.now j2 hj3.1
  refine ⟨g1, g2, ?_, by simpa [endM] using g4⟩
  show upd s.now (i : Int) none (j2 : Int) = _
  unfold upd
  rw [if_neg (by omega)]; exact g3
theorem stepK_ok {k : Kn} {n : Nat} (h : KOK k n) (i : Nat) (at_ : Int) (ended : Bool) (hb : k.led.act.testBit i = true) : LedOK (stepK k i at_ ended).1.led n ∧ (stepK k i at_ ended).1.led.l = k.led.l ∧ (∀ j ∈ (stepK k i at_ ended).1.led.all, j.steps ≤ k.now + 1) ∧ (stepK k i at_ ended).1.due = k.due ∧ (stepK k i at_ ended).1.last = k.last := by
  have h1 := stepM_ok h.led i k.now hb (fun j hj => by have h1 := h.st j hj; have h2 := h.now.2; omega)
  obtain ⟨j, x, g1, g2, g3, g4⟩ := h.led.job hb
  have hsx := h.st x (List.mem_of_getElem? g2)
  have hall : ∀ y ∈ (stepM k.led i k.now).all, y.steps ≤ k.now + 1 := by
    intro y hy
    rcases List.mem_or_eq_of_mem_set hy with hy | rfl
    · have := h.st y hy; omega
    · rw [g4]; simp only [stepJ]; omega
  unfold stepK
  split
  · have h2 := endM_ok (s := stepM k.led i k.now) h1.1 i k.now hb
    refine ⟨h2.1, rfl, fun y hy => ?_, rfl, rfl⟩
    rcases List.mem_or_eq_of_mem_set hy with hy | rfl
    · exact hall y hy
    · show ((stepM k.led i k.now).get i).steps ≤ _
      rw [h1.2, g4]; simp only [stepJ]; omega
  · exact ⟨h1.1, rfl, hall, rfl, rfl⟩
theorem closeM_ok {k : Kn} {n : Nat} (h : KOK k n) (hn : k.now < 2000) (at_ : Int) (ended : Bool) : KOK (closeM k at_ ended).1 n ∧ (closeM k at_ ended).1.l = k.l ∧ (closeM k at_ ended).1.now = k.now + 1 ∧ (closeM k at_ ended).1.opn = false := by
  have hnow := h.now
  unfold closeM
  split
  · rename_i hp
    obtain ⟨i, hi, hb⟩ := pickK_bit h hp
    rw [hi, Int.toNat_natCast]
    have h1 := stepK_ok h i at_ ended hb
    have h2 := stepK_keeps k i at_ ended
    refine ⟨⟨h1.1, ?_, ?_, ⟨by simp only; omega, by simp only; omega⟩, ?_, ?_, ?_, h1.2.2.1⟩, h2.2.2.1, rfl, rfl⟩
    · simp only; rw [h1.2.1, h2.2.2.1]; exact h.ll
    · simp only; rw [h2.2.2.2, h2.2.2.1]; exact h.pl
    · simp only; rw [h1.2.2.2.1, h2.2.2.1]; exact h.due
    · simp only; rw [h1.2.2.2.1, h2.2.2.1]; exact h.dl
    · simp only; rw [h1.2.2.2.2]; exact h.last
  · exact ⟨⟨h.led, h.ll, h.pl, ⟨by simp only; omega, by simp only; omega⟩, h.due, h.dl, h.last, fun j hj => by have := h.st j hj; simp only; omega⟩, rfl, rfl, rfl⟩
end Go.Proofs.YtfkokbeloenfdaaDoor.krn
