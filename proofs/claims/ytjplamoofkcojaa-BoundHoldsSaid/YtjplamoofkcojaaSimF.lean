/- Package four: a step of the reference, as the program's. -/
import Derived.Test.YtjplamoofkcojaaTrioA
import Derived.Test.YtjplamoofkcojaaRefF
import Derived.Test.YtjplamoofkcojaaRop9
import Derived.Test.YtjplamoofkcojaaFourA
namespace Go.Proofs.Ytjplamoofkcojaa.ref
open Go Go.RowKit Go.Proofs.Ytjplamoofkcojaa.kit Go.Proofs.Ytjplamoofkcojaa.obj Go.Proofs.Ytjplamoofkcojaa.rop Go.Proofs.Ytjplamoofkcojaa.mem Go.Proofs.Ytjplamoofkcojaa.core
set_option linter.unusedVariables false
set_option linter.unusedSimpArgs false
set_option maxRecDepth 20000

def RelF (x : Core) (z : ROp) : Prop := z = ropOf x x.a (fun _ => false) z.rcd ∧ x.k = 1 ∧ ObjW 1 x.w x.s x.c x.st x.il x.rl ∧ rightB 1 x.w x.s x.c x.st x.il x.rl = true ∧ x.base ≤ 9223372036854775807

set_option maxHeartbeats 2000000 in
theorem fourW_yes (bx g tn cp : Nat) (x : Core) (z : ROp) (rec ls : List Int) (W : World) (mv : Value) (hop : x.op = 2) (hI : four.Shape x rec) (hrel : RelF x z) (ho : opens x ls.length = true) (hs : 0 ≤ x.steps ∧ x.steps ≤ 1000000) (hln : ls.length ≤ 100000) (hcp : ls.length ≤ cp) (hwf : ∀ z ∈ ls, 0 ≤ z ∧ z ≤ 4294967295) (h : Ref bx g tn W z rec ls) :
    Calls Try.prog 19 #[.pointer (some ⟨bx, 0, none⟩), .slice (some ⟨g, 0, none⟩) ls.length cp] W fun e W' => e = .returned (.bool true) ∧ After RelF bx g tn W z.rcd (four.step x mv rec ls) W' := by
  obtain ⟨hz, hk, hO, hR, hB⟩ := hrel
  obtain ⟨v, hv⟩ : ∃ v, z.rcd = v := ⟨_, rfl⟩
  rw [hv] at hz ⊢
  clear hv
  subst hz
  obtain ⟨hov, hb0, hs0, hfit⟩ := four.opens_spec ho
  obtain ⟨hw, ha, hb, -, hsz, hi, hph⟩ := hI
  obtain ⟨atN, hat⟩ : ∃ atN : Nat, x.base = (atN : Int) := ⟨x.base.toNat, by omega⟩
  obtain ⟨k, w, s, c, st, ia, il, ic, wr, ra, rl, rc, op, reader, phase, i, tries, a, b, used, m, base, size, code, steps, over⟩ := x
  dsimp only at *
  subst hk hop hov hat hsz
  have hrr := (rightB_bd hR)
  have hsize : sizeI 1 w s c st il rl = 4 + 4 * w := by simp [sizeI, hR, headI, recordsI]
  have hi := hi rfl
  refine (Step_1_Write bx g atN ls.length cp (ropOf ⟨1, w, s, c, st, ia, il, ic, wr, ra, rl, rc, 2, reader, phase, i, tries, a, b, used, m, (atN : Int), 4 + 4 * w, code, steps, false⟩ a (fun _ => false) v) hln hcp (by omega) (by simp [ropOf, writesI]) hs hO (by show sizeI 1 w s c st il rl ≤ _; rw [hsize]; omega) W h.box (fun W' => After RelF bx g tn W v (four.step ⟨1, w, s, c, st, ia, il, ic, wr, ra, rl, rc, 2, reader, phase, i, tries, a, b, used, m, (atN : Int), 4 + 4 * w, code, steps, false⟩ mv rec ls) W') ?_).mono (fun e W' hh => hh)
  intro V hV hcV
  have hlV := h.lst.keep hcV (by simp; exact h.ne.symm)
  have hne := h.ne
  rcases hph with ⟨-, hph, hlen⟩ | ⟨h1, -⟩
  rotate_left
  · omega
  have hlen := hlen rfl
  rcases (show phase = 0 ∨ phase = 1 ∨ phase = 2 ∨ phase = 3 ∨ phase = 4 by omega) with rfl | rfl | rfl | rfl | rfl
  · refine (fourWrite_0 bx g atN (ls.length - atN) (cp - atN) (ropOf ⟨1, w, s, c, st, ia, il, ic, wr, ra, rl, rc, 2, reader, 0, i, tries, a, b, used, m, (atN : Int), 4 + 4 * w, code, steps + 1, false⟩ a (fun _ => false) v) ls V hV hlV hwf (by omega) (by omega) (by omega) hne).mono ?_
    rintro e W' ⟨rfl, hr, hl, hc⟩
    refine ⟨rfl, ?_⟩
    simp only [four.step, four.stepW, if_true]
    exact After.same h hcV (hc.mono (by simp)) hr rfl hl ⟨rfl, rfl, hO, hR, hB⟩
  · rcases ha with rfl | rfl
    · refine (fourWrite_1_0 bx g atN (ls.length - atN) (cp - atN) (ropOf ⟨1, w, s, c, st, ia, il, ic, wr, ra, rl, rc, 2, reader, 1, i, tries, 0, b, used, m, (atN : Int), 4 + 4 * w, code, steps + 1, false⟩ 0 (fun _ => false) v) ls V hV hlV hwf (by omega) (by omega) (by omega) hne).mono ?_
      rintro e W' ⟨rfl, hr, hl, hc⟩
      refine ⟨rfl, ?_⟩
      simp only [four.step, four.stepW, if_true, show ¬ ((1 : Int) = 0) by omega, if_false]
      exact After.same h hcV (hc.mono (by simp)) hr rfl hl ⟨rfl, rfl, hO, hR, hB⟩
    · refine (fourWrite_1_1 bx g atN (ls.length - atN) (cp - atN) (ropOf ⟨1, w, s, c, st, ia, il, ic, wr, ra, rl, rc, 2, reader, 1, i, tries, 1, b, used, m, (atN : Int), 4 + 4 * w, code, steps + 1, false⟩ 1 (fun _ => false) v) ls V hV hlV hwf (by omega) (by omega) (by omega) hne).mono ?_
      rintro e W' ⟨rfl, hr, hl, hc⟩
      refine ⟨rfl, ?_⟩
      simp only [four.step, four.stepW, if_true, show ¬ ((1 : Int) = 0) by omega, if_false]
      exact After.same h hcV (hc.mono (by simp)) hr rfl hl ⟨rfl, rfl, hO, hR, hB⟩
  · obtain ⟨iN, rfl⟩ : ∃ n : Nat, i = (n : Int) := ⟨i.toNat, by omega⟩
    obtain ⟨wN, rfl⟩ : ∃ n : Nat, w = (n : Int) := ⟨w.toNat, by omega⟩
    obtain ⟨aN, rfl⟩ : ∃ n : Nat, a = (n : Int) := ⟨a.toNat, by omega⟩
    obtain ⟨bN, rfl⟩ : ∃ n : Nat, b = (n : Int) := ⟨b.toNat, by omega⟩
    obtain ⟨rg, rcap, hv, hcell⟩ := own_some h.own (by omega)
    change v = _ at hv
    subst hv
    have hrg := h.nv rg rfl
    have hm := slot_le (wN := wN) (iN := iN) (s := 2 * aN + bN) (n := 4) (by omega) (by omega)
    have hwi : iN < wN := by omega
    refine (fourWrite_2 bx g rg atN (ls.length - atN) (cp - atN) iN rec.length rcap (ropOf ⟨1, (wN : Int), s, c, st, ia, il, ic, wr, ra, rl, rc, 2, reader, 2, (iN : Int), tries, (aN : Int), (bN : Int), used, m, (atN : Int), 4 + 4 * (wN : Int), code, steps + 1, false⟩ (aN : Int) (fun _ => false) (.slice (some ⟨rg, 0, none⟩) rec.length rcap)) ls (rec.getD iN 0) (4 + (2 * aN + bN) * wN + iN) V hV hlV (by simp [ropOf, writesI]) (by show rl ≤ 100; omega) hw (by omega) (by omega) (by show (0 : Int) ≤ aN ∧ (aN : Int) ≤ 1; omega) (by show (0 : Int) ≤ bN ∧ (bN : Int) ≤ 1; omega) (by show headI 1 rl + (2 * (aN : Int) + bN) * (wN : Int) + iN = _; simp [headI]) (by omega) (by omega) (by omega) (hcV.keep (hcell iN (by omega)) (by simp; exact hrg.1)) hne hrg.1 hrg.2).mono ?_
    rintro e W' ⟨rfl, hr, hl, hc⟩
    refine ⟨rfl, ?_⟩
    simp only [four.step, four.stepW, if_true, show ¬ ((2 : Int) = 0) by omega, show ¬ ((2 : Int) = 1) by omega, if_false, Int.toNat_natCast]
    change RAt W' bx (if (iN : Int) + 1 < (wN : Int) then _ else _) at hr
    by_cases hlast : wN ≤ iN + 1
    · rw [if_neg (show ¬ ((iN : Int) + 1 < (wN : Int)) from by omega)] at hr
      rw [if_pos hlast]
      exact After.same h hcV hc hr rfl hl ⟨rfl, rfl, hO, hR, hB⟩
    · rw [if_pos (show ((iN : Int) + 1 < (wN : Int)) from by omega)] at hr
      rw [if_neg hlast]
      exact After.same h hcV hc hr rfl hl ⟨rfl, rfl, hO, hR, hB⟩
  · rcases ha with rfl | rfl
    · refine (fourWrite_3_0 bx g atN (ls.length - atN) (cp - atN) (ropOf ⟨1, w, s, c, st, ia, il, ic, wr, ra, rl, rc, 2, reader, 3, i, tries, 0, b, used, m, (atN : Int), 4 + 4 * w, code, steps + 1, false⟩ 0 (fun _ => false) v) ls V hV hlV hwf (by omega) (by omega) (by omega) hne).mono ?_
      rintro e W' ⟨rfl, hr, hl, hc⟩
      refine ⟨rfl, ?_⟩
      simp only [four.step, four.stepW, if_true, show ¬ ((3 : Int) = 0) by omega, show ¬ ((3 : Int) = 1) by omega, show ¬ ((3 : Int) = 2) by omega, if_false]
      rcases hb with rfl | rfl <;> exact After.same h hcV hc hr rfl hl ⟨rfl, rfl, hO, hR, hB⟩
    · refine (fourWrite_3_1 bx g atN (ls.length - atN) (cp - atN) (ropOf ⟨1, w, s, c, st, ia, il, ic, wr, ra, rl, rc, 2, reader, 3, i, tries, 1, b, used, m, (atN : Int), 4 + 4 * w, code, steps + 1, false⟩ 1 (fun _ => false) v) ls V hV hlV hwf (by omega) (by omega) (by omega) hne).mono ?_
      rintro e W' ⟨rfl, hr, hl, hc⟩
      refine ⟨rfl, ?_⟩
      simp only [four.step, four.stepW, if_true, show ¬ ((3 : Int) = 0) by omega, show ¬ ((3 : Int) = 1) by omega, show ¬ ((3 : Int) = 2) by omega, if_false]
      rcases hb with rfl | rfl <;> exact After.same h hcV hc hr rfl hl ⟨rfl, rfl, hO, hR, hB⟩
  · refine (fourWrite_4 bx g atN (ls.length - atN) (cp - atN) (ropOf ⟨1, w, s, c, st, ia, il, ic, wr, ra, rl, rc, 2, reader, 4, i, tries, a, b, used, m, (atN : Int), 4 + 4 * w, code, steps + 1, false⟩ a (fun _ => false) v) ls V hV hlV hwf (by omega) (by omega) (by omega) hne).mono ?_
    rintro e W' ⟨rfl, hr, hl, hc⟩
    refine ⟨rfl, ?_⟩
    simp only [four.step, four.stepW, if_true, show ¬ ((4 : Int) = 0) by omega, show ¬ ((4 : Int) = 1) by omega, show ¬ ((4 : Int) = 2) by omega, show ¬ ((4 : Int) = 3) by omega, if_false]
    rw [show endRec 2 0 rec = [] from by simp [endRec]]
    rcases ha with rfl | rfl <;> exact After.none h hcV hc hr (by simp [ROp.ended, ropOf, writesI]) hl ⟨rfl, rfl, hO, hR, hB⟩

set_option maxHeartbeats 2000000 in
theorem fourR_yes (bx g tn cp : Nat) (x : Core) (z : ROp) (rec ls : List Int) (W : World) (mv : Value) (hop : x.op = 1) (hI : four.Shape x rec) (hrel : RelF x z) (ho : opens x ls.length = true) (hs : 0 ≤ x.steps ∧ x.steps ≤ 1000000) (hln : ls.length ≤ 100000) (hcp : ls.length ≤ cp) (hwf : ∀ z ∈ ls, 0 ≤ z ∧ z ≤ 4294967295) (h : Ref bx g tn W z rec ls) :
    Calls Try.prog 19 #[.pointer (some ⟨bx, 0, none⟩), .slice (some ⟨g, 0, none⟩) ls.length cp] W fun e W' => e = .returned (.bool true) ∧ After RelF bx g tn W z.rcd (four.step x mv rec ls) W' := by
  obtain ⟨hz, hk, hO, hR, hB⟩ := hrel
  obtain ⟨v, hv⟩ : ∃ v, z.rcd = v := ⟨_, rfl⟩
  rw [hv] at hz ⊢
  clear hv
  subst hz
  obtain ⟨hov, hb0, hs0, hfit⟩ := four.opens_spec ho
  obtain ⟨hw, ha, hb, -, hsz, hi, hph⟩ := hI
  obtain ⟨atN, hat⟩ : ∃ atN : Nat, x.base = (atN : Int) := ⟨x.base.toNat, by omega⟩
  obtain ⟨k, w, s, c, st, ia, il, ic, wr, ra, rl, rc, op, reader, phase, i, tries, a, b, used, m, base, size, code, steps, over⟩ := x
  dsimp only at *
  subst hk hop hov hat hsz
  have hrr := (rightB_bd hR)
  have hsize : sizeI 1 w s c st il rl = 4 + 4 * w := by simp [sizeI, hR, headI, recordsI]
  have hi := hi rfl
  refine (Step_1_Read bx g atN ls.length cp (ropOf ⟨1, w, s, c, st, ia, il, ic, wr, ra, rl, rc, 1, reader, phase, i, tries, a, b, used, m, (atN : Int), 4 + 4 * w, code, steps, false⟩ a (fun _ => false) v) hln hcp (by omega) (by simp [ropOf, writesI]) hs hO (by show sizeI 1 w s c st il rl ≤ _; rw [hsize]; omega) W h.box (fun W' => After RelF bx g tn W v (four.step ⟨1, w, s, c, st, ia, il, ic, wr, ra, rl, rc, 1, reader, phase, i, tries, a, b, used, m, (atN : Int), 4 + 4 * w, code, steps, false⟩ mv rec ls) W') ?_).mono (fun e W' hh => hh)
  intro V hV hcV
  have hlV := h.lst.keep hcV (by simp; exact h.ne.symm)
  have hne := h.ne
  rcases hph with ⟨h1, -⟩ | ⟨-, hph, hlen⟩
  · omega
  have hlen := hlen rfl
  rcases (show phase = 0 ∨ phase = 1 ∨ phase = 2 ∨ phase = 3 by omega) with rfl | rfl | rfl | rfl
  · refine (fourRead_0 bx g atN (ls.length - atN) (cp - atN) (ropOf ⟨1, w, s, c, st, ia, il, ic, wr, ra, rl, rc, 1, reader, 0, i, tries, a, b, used, m, (atN : Int), 4 + 4 * w, code, steps + 1, false⟩ a (fun _ => false) v) ls V hV hlV hwf (by omega) (by omega) (by omega) hne).mono ?_
    rintro e W' ⟨rfl, hr, hl, hc⟩
    refine ⟨rfl, ?_⟩
    simp only [four.step, four.stepR, if_true, show ¬ ((1 : Int) = 2) by omega, if_false]
    exact After.same h hcV (hc.mono (by simp)) hr rfl hl ⟨rfl, rfl, hO, hR, hB⟩
  · refine (fourRead_1 bx g atN (ls.length - atN) (cp - atN) (ropOf ⟨1, w, s, c, st, ia, il, ic, wr, ra, rl, rc, 1, reader, 1, i, tries, a, b, used, m, (atN : Int), 4 + 4 * w, code, steps + 1, false⟩ a (fun _ => false) v) ls V hV hlV hwf (by omega) (by omega) (by omega) hne).mono ?_
    rintro e W' ⟨rfl, hr, hl, hc⟩
    refine ⟨rfl, ?_⟩
    simp only [four.step, four.stepR, if_true, show ¬ ((1 : Int) = 2) by omega, show ¬ ((1 : Int) = 0) by omega, if_false]
    rcases ha with rfl | rfl <;> exact After.same h hcV hc hr rfl hl ⟨rfl, rfl, hO, hR, hB⟩
  · rcases ha with rfl | rfl
    · refine (fourRead_2_0 bx g atN (ls.length - atN) (cp - atN) (ropOf ⟨1, w, s, c, st, ia, il, ic, wr, ra, rl, rc, 1, reader, 2, i, tries, 0, b, used, m, (atN : Int), 4 + 4 * w, code, steps + 1, false⟩ 0 (fun _ => false) v) ls V hV hlV hwf (by omega) (by omega) (by omega) hne).mono ?_
      rintro e W' ⟨rfl, hr, hl, hc⟩
      refine ⟨rfl, ?_⟩
      simp only [four.step, four.stepR, if_true, show ¬ ((1 : Int) = 2) by omega, show ¬ ((2 : Int) = 0) by omega, show ¬ ((2 : Int) = 1) by omega, if_false]
      exact After.same h hcV (hc.mono (by simp)) hr rfl hl ⟨rfl, rfl, hO, hR, hB⟩
    · refine (fourRead_2_1 bx g atN (ls.length - atN) (cp - atN) (ropOf ⟨1, w, s, c, st, ia, il, ic, wr, ra, rl, rc, 1, reader, 2, i, tries, 1, b, used, m, (atN : Int), 4 + 4 * w, code, steps + 1, false⟩ 1 (fun _ => false) v) ls V hV hlV hwf (by omega) (by omega) (by omega) hne).mono ?_
      rintro e W' ⟨rfl, hr, hl, hc⟩
      refine ⟨rfl, ?_⟩
      simp only [four.step, four.stepR, if_true, show ¬ ((1 : Int) = 2) by omega, show ¬ ((2 : Int) = 0) by omega, show ¬ ((2 : Int) = 1) by omega, if_false]
      exact After.same h hcV (hc.mono (by simp)) hr rfl hl ⟨rfl, rfl, hO, hR, hB⟩
  · obtain ⟨iN, rfl⟩ : ∃ n : Nat, i = (n : Int) := ⟨i.toNat, by omega⟩
    obtain ⟨wN, rfl⟩ : ∃ n : Nat, w = (n : Int) := ⟨w.toNat, by omega⟩
    obtain ⟨aN, rfl⟩ : ∃ n : Nat, a = (n : Int) := ⟨a.toNat, by omega⟩
    obtain ⟨bN, rfl⟩ : ∃ n : Nat, b = (n : Int) := ⟨b.toNat, by omega⟩
    obtain ⟨rp, rcap, hv⟩ := own_slice h.own
    change v = _ at hv
    subst hv
    have hm := slot_le (wN := wN) (iN := iN) (s := 2 * aN + bN) (n := 4) (by omega) (by omega)
    have hwi : iN < wN := by omega
    simp only [if_true] at hlen
    have hoV := mem.own_chg h.own hcV (fun y hy => by have := h.nv y hy; simp; exact this.1)
    refine (fourRead_3 0 bx g atN (ls.length - atN) (cp - atN) iN rec.length rcap (ropOf ⟨1, (wN : Int), s, c, st, ia, il, ic, wr, ra, rl, rc, 1, reader, 3, (iN : Int), tries, (aN : Int), (bN : Int), used, m, (atN : Int), 4 + 4 * (wN : Int), code, steps + 1, false⟩ (aN : Int) (fun _ => false) (.slice rp rec.length rcap)) rp ls rec (4 + (2 * aN + bN) * wN + iN) V hV hlV (by simp [ropOf, writesI]) (by show rl ≤ 100; omega) hw (by omega) rfl (by omega) (by show (0 : Int) ≤ aN ∧ (aN : Int) ≤ 1; omega) (by show (0 : Int) ≤ bN ∧ (bN : Int) ≤ 1; omega) (by show headI 1 rl + (2 * (aN : Int) + bN) * (wN : Int) + iN = _; simp [headI]) (by omega) (by omega) (by omega) (Nat.zero_le _) hoV hne h.nv).mono ?_
    rintro e W' ⟨v', rfl, hr, hl, ho', hv', hc⟩
    refine ⟨rfl, ?_⟩
    simp only [four.step, four.stepR, if_true, show ¬ ((1 : Int) = 2) by omega, show ¬ ((3 : Int) = 0) by omega, show ¬ ((3 : Int) = 1) by omega, show ¬ ((3 : Int) = 2) by omega, if_false, Int.toNat_natCast]
    have ho2 : mem.OwnW W' 0 v' (rec ++ [ls.getD (atN + (4 + (2 * aN + bN) * wN + iN)) 0]) := by
      unfold mem.OwnW
      rw [List.length_append]
      exact ho'
    by_cases hlast : wN ≤ iN + 1
    · unfold nextR at hr
      change RAt W' bx (if (iN : Int) + 1 < (wN : Int) then _ else if (-1 : Int) < 0 then _ else _) at hr
      rw [if_neg (show ¬ ((iN : Int) + 1 < (wN : Int)) from by omega), if_pos (by omega)] at hr
      rw [if_pos hlast, if_pos hlast]
      rw [show endRec 1 0 (rec ++ [ls.getD (atN + (4 + (2 * aN + bN) * wN + iN)) 0]) = rec ++ [ls.getD (atN + (4 + (2 * aN + bN) * wN + iN)) 0] from by simp [endRec]]
      exact After.more h hcV hc hr ho2 hv' hl ⟨rfl, rfl, hO, hR, hB⟩
    · unfold nextR at hr
      change RAt W' bx (if (iN : Int) + 1 < (wN : Int) then _ else if (-1 : Int) < 0 then _ else _) at hr
      rw [if_pos (show ((iN : Int) + 1 < (wN : Int)) from by omega)] at hr
      rw [if_neg hlast, if_neg hlast]
      exact After.more h hcV hc hr ho2 hv' hl ⟨rfl, rfl, hO, hR, hB⟩
end Go.Proofs.Ytjplamoofkcojaa.ref
