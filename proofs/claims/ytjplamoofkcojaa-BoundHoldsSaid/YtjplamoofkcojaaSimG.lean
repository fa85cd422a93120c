/- Package ring: a step of the reference, as the program's. -/
import Derived.Test.YtjplamoofkcojaaTrioA
import Derived.Test.YtjplamoofkcojaaRefG
import Derived.Test.YtjplamoofkcojaaRop9c
import Derived.Test.YtjplamoofkcojaaRingA
namespace Go.Proofs.Ytjplamoofkcojaa.ref
open Go Go.RowKit Go.Proofs.Ytjplamoofkcojaa.kit Go.Proofs.Ytjplamoofkcojaa.obj Go.Proofs.Ytjplamoofkcojaa.rop Go.Proofs.Ytjplamoofkcojaa.mem Go.Proofs.Ytjplamoofkcojaa.core
set_option linter.unusedVariables false
set_option linter.unusedSimpArgs false
set_option maxRecDepth 20000

def RelG (x : Core) (z : ROp) : Prop := z = ropOf x x.a (fun _ => false) z.rcd ∧ x.k = 4 ∧ ObjW 4 x.w x.s x.c x.st x.il x.rl ∧ rightB 4 x.w x.s x.c x.st x.il x.rl = true ∧ x.base ≤ 9223372036854775807
theorem opens_specG {x : Core} {l : Nat} (h : opens x l = true) : x.over = false ∧ 0 ≤ x.base ∧ 0 ≤ x.size ∧ x.base + x.size ≤ l := by
  simp only [opens, Bool.and_eq_true, Bool.not_eq_true', insB, decide_eq_true_eq] at h
  exact ⟨h.1, by omega, by omega, by omega⟩
theorem gap_mod (a v m : Int) : word.gapU a (v % m) m = word.gapU a v m := by
  unfold word.gapU
  rw [Int.emod_emod]

set_option maxHeartbeats 2000000 in
theorem ringW_yes (bx g tn cp : Nat) (x : Core) (z : ROp) (rec ls : List Int) (W : World) (mv : Value) (hop : x.op = 2) (hI : ring.Shape x rec) (hrel : RelG x z) (ho : opens x ls.length = true) (hs : 0 ≤ x.steps ∧ x.steps ≤ 1000000) (hln : ls.length ≤ 100000) (hcp : ls.length ≤ cp) (hwf : ∀ z ∈ ls, 0 ≤ z ∧ z ≤ 4294967295) (h : Ref bx g tn W z rec ls) :
    Calls Try.prog 19 #[.pointer (some ⟨bx, 0, none⟩), .slice (some ⟨g, 0, none⟩) ls.length cp] W fun e W' => e = .returned (.bool true) ∧ After RelG bx g tn W z.rcd (ring.step x mv rec ls) W' := by
  obtain ⟨hz, hk, hO, hR, hB⟩ := hrel
  obtain ⟨v, hv⟩ : ∃ v, z.rcd = v := ⟨_, rfl⟩
  rw [hv] at hz ⊢
  clear hv
  subst hz
  obtain ⟨hov, hb0, hs0, hfit⟩ := opens_specG ho
  obtain ⟨hw, hsl, ha, hc0, htr, -, hsz, hi, hph⟩ := hI
  have hff := ring.from_fit hsl hw ha.1
  obtain ⟨atN, hat⟩ : ∃ atN : Nat, x.base = (atN : Int) := ⟨x.base.toNat, by omega⟩
  obtain ⟨k, w, s, c, st, ia, il, ic, wr, ra, rl, rc, op, reader, phase, i, tries, a, b, used, m, base, size, code, steps, over⟩ := x
  obtain ⟨fN, hfN⟩ : ∃ fN : Nat, ring.fromN ⟨k, w, s, c, st, ia, il, ic, wr, ra, rl, rc, op, reader, phase, i, tries, a, b, used, m, base, size, code, steps, over⟩ = fN := ⟨_, rfl⟩
  have hfI : ((ring.fromN ⟨k, w, s, c, st, ia, il, ic, wr, ra, rl, rc, op, reader, phase, i, tries, a, b, used, m, base, size, code, steps, over⟩ : Nat) : Int) = 1 + a % s * w := by
    dsimp only at hw hsl ha
    have q2 := Int.emod_nonneg a (show s ≠ 0 by omega)
    have q3 := Int.mul_nonneg q2 (show 0 ≤ w by omega)
    unfold ring.fromN
    dsimp only
    omega
  rw [hfN] at hff hfI
  have hfN2 : ∀ (ph i2 st2 : Int) (m2 : Value), ring.fromN ⟨k, w, s, c, st, ia, il, ic, wr, ra, rl, rc, op, reader, ph, i2, tries, a, b, used, m2, base, size, code, st2, over⟩ = fN := fun _ _ _ _ => hfN
  dsimp only at *
  subst hk hop hov hat hsz
  have hrr := (rightB_bd hR)
  have hsw : 0 ≤ s * w := Int.mul_nonneg (by omega) (by omega)
  have hsw2 : w ≤ s * w := by have := Int.mul_le_mul_of_nonneg_right (show 1 ≤ s by omega) (show 0 ≤ w by omega); omega
  have hsize : sizeI 4 w s c st il rl = 1 + s * w := by simp [sizeI, hR, headI, recordsI]
  have hhd4 : headI 4 rl = 1 := by simp [headI]
  have hi := hi rfl
  have htr2 := htr.2 rfl
  have htb : 0 ≤ tries ∧ tries ≤ 1000000 := by omega
  refine (Step_4_Write bx g atN ls.length cp (ropOf ⟨4, w, s, c, st, ia, il, ic, wr, ra, rl, rc, 2, reader, phase, i, tries, a, b, used, m, (atN : Int), 1 + s * w, code, steps, false⟩ a (fun _ => false) v) hln hcp (by omega) (by simp [ropOf, writesI]) hs hO (by show sizeI 4 w s c st il rl ≤ _; rw [hsize]; omega) W h.box (fun W' => After RelG bx g tn W v (ring.step ⟨4, w, s, c, st, ia, il, ic, wr, ra, rl, rc, 2, reader, phase, i, tries, a, b, used, m, (atN : Int), 1 + s * w, code, steps, false⟩ mv rec ls) W') ?_).mono (fun e W' hh => hh)
  intro V hV hcV
  have hlV := h.lst.keep hcV (by simp; exact h.ne.symm)
  have hne := h.ne
  rcases hph with ⟨-, hph, hlen⟩ | ⟨h1, -⟩
  rotate_left
  · omega
  have hlen := hlen rfl
  rcases (show phase = 0 ∨ phase = 1 ∨ phase = 2 by omega) with rfl | rfl | rfl
  · refine (ringW_0 bx g atN (ls.length - atN) (cp - atN) (ropOf ⟨4, w, s, c, st, ia, il, ic, wr, ra, rl, rc, 2, reader, 0, i, tries, a, b, used, m, (atN : Int), 1 + s * w, code, steps + 1, false⟩ a (fun _ => false) v) ls V hV hlV hwf (by omega) (by omega) (by omega) hne hsl).mono ?_
    rintro e W' ⟨rfl, hr, hl, hc⟩
    refine ⟨rfl, ?_⟩
    simp only [ring.step, ring.stepW, if_true]
    exact After.same h hcV (hc.mono (by simp)) hr rfl hl ⟨rfl, rfl, hO, hR, hB⟩
  · obtain ⟨iN, rfl⟩ : ∃ n : Nat, i = (n : Int) := ⟨i.toNat, by omega⟩
    obtain ⟨wN, rfl⟩ : ∃ n : Nat, w = (n : Int) := ⟨w.toNat, by omega⟩
    obtain ⟨rg, rcap, hv, hcell⟩ := own_some h.own (by omega)
    change v = _ at hv
    subst hv
    have hrg := h.nv rg rfl
    refine (ringW_1 bx g rg atN (ls.length - atN) (cp - atN) iN rec.length rcap (ropOf ⟨4, (wN : Int), s, c, st, ia, il, ic, wr, ra, rl, rc, 2, reader, 1, (iN : Int), tries, a, b, used, m, (atN : Int), 1 + s * (wN : Int), code, steps + 1, false⟩ a (fun _ => false) (.slice (some ⟨rg, 0, none⟩) rec.length rcap)) ls (rec.getD iN 0) (fN + iN) V hV hlV (by simp [ropOf, writesI]) (by show rl ≤ 100; omega) hw (by omega) (by omega) hsl ha (by show headI 4 rl + a % s * (wN : Int) + iN = _; rw [hhd4]; push_cast; omega) (by omega) (by omega) (by omega) (hcV.keep (hcell iN (by omega)) (by simp; exact hrg.1)) hne hrg.1 hrg.2).mono ?_
    rintro e W' ⟨rfl, hr, hl, hc⟩
    refine ⟨rfl, ?_⟩
    simp only [ring.step, ring.stepW, if_true, show ¬ ((1 : Int) = 0) by omega, if_false, Int.toNat_natCast, hfN2]
    change RAt W' bx (if (iN : Int) + 1 < (wN : Int) then _ else _) at hr
    by_cases hlast : wN ≤ iN + 1
    · rw [if_neg (show ¬ ((iN : Int) + 1 < (wN : Int)) from by omega)] at hr
      rw [if_pos hlast]
      exact After.same h hcV hc hr rfl hl ⟨rfl, rfl, hO, hR, hB⟩
    · rw [if_pos (show ((iN : Int) + 1 < (wN : Int)) from by omega)] at hr
      rw [if_neg hlast]
      exact After.same h hcV hc hr rfl hl ⟨rfl, rfl, hO, hR, hB⟩
  · refine (ringW_2 bx g atN (ls.length - atN) (cp - atN) (ropOf ⟨4, w, s, c, st, ia, il, ic, wr, ra, rl, rc, 2, reader, 2, i, tries, a, b, used, m, (atN : Int), 1 + s * w, code, steps + 1, false⟩ a (fun _ => false) v) ls V hV hlV hwf (by omega) (by omega) (by omega) hne hsl).mono ?_
    rintro e W' ⟨rfl, hr, hl, hc⟩
    refine ⟨rfl, ?_⟩
    simp only [ring.step, ring.stepW, if_true, show ¬ ((2 : Int) = 0) by omega, show ¬ ((2 : Int) = 1) by omega, if_false]
    rw [show endRec 2 0 rec = [] from by simp [endRec]]
    exact After.none h hcV hc hr (by simp [ROp.ended, ropOf, writesI]) hl ⟨rfl, rfl, hO, hR, hB⟩

set_option maxHeartbeats 2000000 in
theorem ringR_yes (bx g tn cp : Nat) (x : Core) (z : ROp) (rec ls : List Int) (W : World) (mv : Value) (hop : x.op = 1) (hI : ring.Shape x rec) (hrel : RelG x z) (ho : opens x ls.length = true) (hs : 0 ≤ x.steps ∧ x.steps ≤ 1000000) (hln : ls.length ≤ 100000) (hcp : ls.length ≤ cp) (hwf : ∀ z ∈ ls, 0 ≤ z ∧ z ≤ 4294967295) (h : Ref bx g tn W z rec ls) :
    Calls Try.prog 19 #[.pointer (some ⟨bx, 0, none⟩), .slice (some ⟨g, 0, none⟩) ls.length cp] W fun e W' => e = .returned (.bool true) ∧ After RelG bx g tn W z.rcd (ring.step x mv rec ls) W' := by
  obtain ⟨hz, hk, hO, hR, hB⟩ := hrel
  obtain ⟨v, hv⟩ : ∃ v, z.rcd = v := ⟨_, rfl⟩
  rw [hv] at hz ⊢
  clear hv
  subst hz
  obtain ⟨hov, hb0, hs0, hfit⟩ := opens_specG ho
  obtain ⟨hw, hsl, ha, hc0, htr, -, hsz, hi, hph⟩ := hI
  have hff := ring.from_fit hsl hw ha.1
  obtain ⟨atN, hat⟩ : ∃ atN : Nat, x.base = (atN : Int) := ⟨x.base.toNat, by omega⟩
  obtain ⟨k, w, s, c, st, ia, il, ic, wr, ra, rl, rc, op, reader, phase, i, tries, a, b, used, m, base, size, code, steps, over⟩ := x
  obtain ⟨fN, hfN⟩ : ∃ fN : Nat, ring.fromN ⟨k, w, s, c, st, ia, il, ic, wr, ra, rl, rc, op, reader, phase, i, tries, a, b, used, m, base, size, code, steps, over⟩ = fN := ⟨_, rfl⟩
  have hfI : ((ring.fromN ⟨k, w, s, c, st, ia, il, ic, wr, ra, rl, rc, op, reader, phase, i, tries, a, b, used, m, base, size, code, steps, over⟩ : Nat) : Int) = 1 + a % s * w := by
    dsimp only at hw hsl ha
    have q2 := Int.emod_nonneg a (show s ≠ 0 by omega)
    have q3 := Int.mul_nonneg q2 (show 0 ≤ w by omega)
    unfold ring.fromN
    dsimp only
    omega
  rw [hfN] at hff hfI
  have hfN2 : ∀ (ph i2 st2 : Int) (m2 : Value), ring.fromN ⟨k, w, s, c, st, ia, il, ic, wr, ra, rl, rc, op, reader, ph, i2, tries, a, b, used, m2, base, size, code, st2, over⟩ = fN := fun _ _ _ _ => hfN
  dsimp only at *
  subst hk hop hov hat hsz
  have hrr := (rightB_bd hR)
  have hsw : 0 ≤ s * w := Int.mul_nonneg (by omega) (by omega)
  have hsw2 : w ≤ s * w := by have := Int.mul_le_mul_of_nonneg_right (show 1 ≤ s by omega) (show 0 ≤ w by omega); omega
  have hsize : sizeI 4 w s c st il rl = 1 + s * w := by simp [sizeI, hR, headI, recordsI]
  have hhd4 : headI 4 rl = 1 := by simp [headI]
  have hi := hi rfl
  have htr2 := htr.2 rfl
  have htb : 0 ≤ tries ∧ tries ≤ 1000000 := by omega
  refine (Step_4_Read bx g atN ls.length cp (ropOf ⟨4, w, s, c, st, ia, il, ic, wr, ra, rl, rc, 1, reader, phase, i, tries, a, b, used, m, (atN : Int), 1 + s * w, code, steps, false⟩ a (fun _ => false) v) hln hcp (by omega) (by simp [ropOf, writesI]) hs hO (by show sizeI 4 w s c st il rl ≤ _; rw [hsize]; omega) W h.box (fun W' => After RelG bx g tn W v (ring.step ⟨4, w, s, c, st, ia, il, ic, wr, ra, rl, rc, 1, reader, phase, i, tries, a, b, used, m, (atN : Int), 1 + s * w, code, steps, false⟩ mv rec ls) W') ?_).mono (fun e W' hh => hh)
  intro V hV hcV
  have hlV := h.lst.keep hcV (by simp; exact h.ne.symm)
  have hne := h.ne
  rcases hph with ⟨h1, -⟩ | ⟨-, hph, hlen⟩
  · omega
  have hlen := hlen rfl
  rcases (show phase = 0 ∨ phase = 1 ∨ phase = 2 by omega) with rfl | rfl | rfl
  · refine (ringR_0 bx g atN (ls.length - atN) (cp - atN) (ropOf ⟨4, w, s, c, st, ia, il, ic, wr, ra, rl, rc, 1, reader, 0, i, tries, a, b, used, m, (atN : Int), 1 + s * w, code, steps + 1, false⟩ a (fun _ => false) v) ls V hV hlV hwf (by omega) (by omega) (by omega) hne hsl).mono ?_
    rintro e W' ⟨rfl, hr, hl, hc⟩
    refine ⟨rfl, ?_⟩
    simp only [ring.step, ring.stepR, if_true, show ¬ ((1 : Int) = 2) by omega, if_false]
    exact After.same h hcV (hc.mono (by simp)) hr rfl hl ⟨rfl, rfl, hO, hR, hB⟩
  · obtain ⟨iN, rfl⟩ : ∃ n : Nat, i = (n : Int) := ⟨i.toNat, by omega⟩
    obtain ⟨wN, rfl⟩ : ∃ n : Nat, w = (n : Int) := ⟨w.toNat, by omega⟩
    obtain ⟨rp, rcap, hv⟩ := own_slice h.own
    change v = _ at hv
    subst hv
    simp only [if_true] at hlen
    have hoV := mem.own_chg h.own hcV (fun y hy => by have := h.nv y hy; simp; exact this.1)
    refine (ringR_1 0 bx g atN (ls.length - atN) (cp - atN) iN rec.length rcap (ropOf ⟨4, (wN : Int), s, c, st, ia, il, ic, wr, ra, rl, rc, 1, reader, 1, (iN : Int), tries, a, b, used, m, (atN : Int), 1 + s * (wN : Int), code, steps + 1, false⟩ a (fun _ => false) (.slice rp rec.length rcap)) rp ls rec (fN + iN) V hV hlV (by simp [ropOf, writesI]) (by show rl ≤ 100; omega) hw (by omega) rfl (by omega) hsl ha (by show headI 4 rl + a % s * (wN : Int) + iN = _; rw [hhd4]; push_cast; omega) (by omega) (by omega) (by omega) (Nat.zero_le _) hoV hne h.nv).mono ?_
    rintro e W' ⟨v', rfl, hr, hl, ho', hv', hc⟩
    refine ⟨rfl, ?_⟩
    simp only [ring.step, ring.stepR, if_true, show ¬ ((1 : Int) = 2) by omega, show ¬ ((1 : Int) = 0) by omega, if_false, Int.toNat_natCast, hfN2]
    have ho2 : mem.OwnW W' 0 v' (rec ++ [ls.getD (atN + (fN + iN)) 0]) := by
      unfold mem.OwnW
      rw [List.length_append]
      exact ho'
    unfold nextR at hr
    change RAt W' bx (if (iN : Int) + 1 < (wN : Int) then _ else if (2 : Int) < 0 then _ else _) at hr
    by_cases hlast : wN ≤ iN + 1
    · rw [if_neg (show ¬ ((iN : Int) + 1 < (wN : Int)) from by omega), if_neg (by omega)] at hr
      rw [if_pos hlast]
      exact After.more h hcV hc hr ho2 hv' hl ⟨rfl, rfl, hO, hR, hB⟩
    · rw [if_pos (show ((iN : Int) + 1 < (wN : Int)) from by omega)] at hr
      rw [if_neg hlast]
      exact After.more h hcV hc hr ho2 hv' hl ⟨rfl, rfl, hO, hR, hB⟩
  · refine (ringR_2 bx g atN (ls.length - atN) (cp - atN) (ropOf ⟨4, w, s, c, st, ia, il, ic, wr, ra, rl, rc, 1, reader, 2, i, tries, a, b, used, m, (atN : Int), 1 + s * w, code, steps + 1, false⟩ a (fun _ => false) v) ls V hV hlV hwf (by omega) (by omega) (by omega) hne hsl ha htb).mono ?_
    rintro e W' ⟨rfl, hr, hl, hc⟩
    refine ⟨rfl, ?_⟩
    simp only [ring.step, ring.stepR, if_true, show ¬ ((1 : Int) = 2) by omega, show ¬ ((2 : Int) = 0) by omega, show ¬ ((2 : Int) = 1) by omega, if_false, Int.toNat_natCast, gap_mod]
    change RAt W' bx (if word.gapU a (ls.getD (atN + 0) 0) (s * 1048576) + 1 < s then _ else _) at hr
    by_cases hf : word.gapU a (ls.getD (atN + 0) 0) (s * 1048576) + 1 < s
    · rw [if_pos hf] at hr
      rw [if_pos (by omega), if_pos (by omega)]
      rw [show endRec 1 0 rec = rec from by simp [endRec]]
      exact After.same h hcV (hc.mono (by simp)) hr (by simp [ROp.ended, ropOf, writesI]) hl ⟨by simp [ROp.ended, ropOf, writesI], rfl, hO, hR, hB⟩
    · rw [if_neg hf] at hr
      rw [if_neg (by omega), if_neg (by omega)]
      unfold triedG at hr
      unfold ring.failC
      change RAt W' bx (if c ≤ tries + 1 then _ else _) at hr
      show After RelG bx g tn W v (if c ≤ tries + 1 then _ else _, [], ls) W'
      by_cases hcc : c ≤ tries + 1
      · rw [if_pos hcc] at hr ⊢
        exact After.none h hcV (hc.mono (by simp)) hr (by simp [ROp.ended]) hl ⟨rfl, rfl, hO, hR, hB⟩
      · rw [if_neg hcc] at hr ⊢
        exact After.none h hcV (hc.mono (by simp)) hr rfl hl ⟨rfl, rfl, hO, hR, hB⟩

theorem tiesG : Ties ring.K RelG where
  yes := by
    intro bx g tn cp x z rec ls W mv hI hrel ho hs hln hcp hwf h
    rcases (show x.op = 2 ∨ x.op = 1 from (ring.Shape.op hI).imp And.left And.left) with hop | hop
    · exact ringW_yes bx g tn cp x z rec ls W mv hop hI hrel ho hs hln hcp hwf h
    · exact ringR_yes bx g tn cp x z rec ls W mv hop hI hrel ho hs hln hcp hwf h
  no := by
    intro x z rec n hI hrel ho
    obtain ⟨hz, hk, hO, hR, hB⟩ := hrel
    have hsz : x.size = 1 + x.s * x.w := ring.Shape.size hI
    have hb : 0 ≤ x.base := ring.Shape.base hI
    have hw : 1 ≤ x.w ∧ x.w ≤ 8 := ring.Shape.w hI
    have hss : 2 ≤ x.s ∧ x.s ≤ 16 := ring.Shape.s hI
    have hsw : 0 ≤ x.s * x.w := Int.mul_nonneg (by omega) (by omega)
    have hsize : sizeI 4 x.w x.s x.c x.st x.il x.rl = 1 + x.s * x.w := by simp [sizeI, hR, headI, recordsI]
    rw [hz]
    refine ⟨?_, ⟨hb, hB⟩, by show ObjW x.k x.w x.s x.c x.st x.il x.rl; rw [hk]; exact hO⟩
    show x.over = true ∨ (n : Int) < x.base ∨ (n : Int) - x.base < sizeI x.k x.w x.s x.c x.st x.il x.rl
    rw [hk, hsize]
    cases hov : x.over
    · right
      simp only [opens, hov, Bool.not_false, Bool.true_and, insB, decide_eq_false_iff_not, hsz] at ho
      omega
    · exact .inl rfl
  over := by rintro x z ⟨hz, -⟩; rw [hz]; rfl
  steps := by rintro x z ⟨hz, -⟩; rw [hz]; rfl
  code := by rintro x z ⟨hz, -⟩; rw [hz]; rfl
end Go.Proofs.Ytjplamoofkcojaa.ref
