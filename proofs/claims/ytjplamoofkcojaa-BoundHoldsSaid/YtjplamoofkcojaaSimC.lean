/- Package cab: a step of the reference, as the program's. -/
import Derived.Test.YtjplamoofkcojaaTrioA
import Derived.Test.YtjplamoofkcojaaRefC
import Derived.Test.YtjplamoofkcojaaBits
import Derived.Test.YtjplamoofkcojaaRop9b
import Derived.Test.YtjplamoofkcojaaCabA
namespace Go.Proofs.Ytjplamoofkcojaa.ref
open Go Go.RowKit Go.Proofs.Ytjplamoofkcojaa.kit Go.Proofs.Ytjplamoofkcojaa.obj Go.Proofs.Ytjplamoofkcojaa.rop Go.Proofs.Ytjplamoofkcojaa.mem Go.Proofs.Ytjplamoofkcojaa.core
set_option linter.unusedVariables false
set_option linter.unusedSimpArgs false
set_option maxRecDepth 20000

theorem opens_specC {x : Core} {l : Nat} (h : core.opens x l = true) : x.over = false ∧ 0 ≤ x.base ∧ 0 ≤ x.size ∧ x.base + x.size ≤ l := by
  simp only [core.opens, Bool.and_eq_true, Bool.not_eq_true', insB, decide_eq_true_eq] at h
  exact ⟨h.1, by omega, by omega, by omega⟩
/-- what is known of the object -/
def StC (x : Core) : Prop := x.k = 5 ∧ ObjW 5 x.w x.s x.c x.st x.il x.rl ∧ rightB 5 x.w x.s x.c x.st x.il x.rl = true ∧ x.base ≤ 9223372036854775807
def rowC (x : Core) : Int := if x.phase = 4 ∧ x.b = 1 then 5 else x.phase
def ropC (x : Core) (r : Int) (v : Value) : ROp := { ropOf x x.a (fun _ => false) v with b := 0, row := r }
def RelC (x : Core) (z : ROp) : Prop := StC x ∧ ((x.op = 2 ∧ ∃ a u, z = ropOf x a u z.rcd ∧ (x.over = false → x.phase = 0 → u = fun _ => false) ∧ (x.over = false → x.phase = 1 → Agree x.s x.used x.a u)) ∨
  (x.op = 1 ∧ z = ropC x (rowC x) z.rcd ∧ (x.over = false → x.b = 0 ∨ (x.b = 1 ∧ x.phase = 4))))
theorem relC_read {x : Core} (r : Int) {v : Value} (h : StC x) (hop : x.op = 1) (hr : rowC x = r) (hb : x.over = false → x.b = 0 ∨ (x.b = 1 ∧ x.phase = 4)) : RelC x (ropC x r v) := ⟨h, .inr ⟨hop, by rw [hr]; rfl, hb⟩⟩

set_option maxHeartbeats 4000000 in
theorem cabW_yes (bx g tn cp : Nat) (x : Core) (z : ROp) (rec ls : List Int) (W : World) (mv : Value) (hop : x.op = 2) (hI : cab.Shape x rec) (hrel : RelC x z) (ho : core.opens x ls.length = true) (hs : 0 ≤ x.steps ∧ x.steps ≤ 1000000) (hln : ls.length ≤ 100000) (hcp : ls.length ≤ cp) (hwf : ∀ z ∈ ls, 0 ≤ z ∧ z ≤ 4294967295) (h : Ref bx g tn W z rec ls) :
    Calls Try.prog 19 #[.pointer (some ⟨bx, 0, none⟩), .slice (some ⟨g, 0, none⟩) ls.length cp] W fun e W' => e = .returned (.bool true) ∧ After RelC bx g tn W z.rcd (cab.step x mv rec ls) W' := by
  obtain ⟨⟨hk, hO, hR, hB⟩, hrel⟩ := hrel
  obtain ⟨za, u, hz, hu0, hu1⟩ : ∃ a u, z = ropOf x a u z.rcd ∧ (x.over = false → x.phase = 0 → u = fun _ => false) ∧ (x.over = false → x.phase = 1 → Agree x.s x.used x.a u) := by
    rcases hrel with ⟨-, h1⟩ | ⟨h1, -⟩
    · exact h1
    · omega
  obtain ⟨v, hv⟩ : ∃ v, z.rcd = v := ⟨_, rfl⟩
  rw [hv] at hz ⊢
  clear hv hrel
  subst hz
  obtain ⟨hov, hb0, hs0, hfit⟩ := opens_specC ho
  obtain ⟨hw, hrl, hsl, ha, hb, hc0, hrd, htr, -, hsz, hmk, hi, hph⟩ := hI
  have hfa := cab.place_fit (x := x) (sl := x.a) (by omega) hw ha
  have hfb := cab.place_fit (x := x) (sl := x.b) (by omega) hw hb
  obtain ⟨atN, hat⟩ : ∃ atN : Nat, x.base = (atN : Int) := ⟨x.base.toNat, by omega⟩
  obtain ⟨rN, hrN⟩ : ∃ rN : Nat, x.reader = (rN : Int) := ⟨x.reader.toNat, by omega⟩
  obtain ⟨k, w, s, c, st, ia, il, ic, wr, ra, rl, rc, op, reader, phase, i, tries, a, b, used, m, base, size, code, steps, over⟩ := x
  dsimp only at hop hk hO hR hB hov hb0 hs0 hfit hw hrl ha hb hrd hsz hmk hi hph hat hrN hs ho hsl hc0 htr hfa hfb hu0 hu1
  subst hk hop hov hat hsz
  obtain ⟨fN, hfN⟩ : ∃ fN : Nat, cab.place ⟨5, w, s, c, st, ia, il, ic, wr, ra, rl, rc, 2, reader, phase, i, tries, a, b, used, m, (atN : Int), 1 + rl + s * w, code, steps, false⟩ b = fN := ⟨_, rfl⟩
  rw [hfN] at hfb
  have hfN2 : ∀ (ph i2 st2 : Int) (m2 : Value), cab.place ⟨5, w, s, c, st, ia, il, ic, wr, ra, rl, rc, 2, reader, ph, i2, tries, a, b, used, m2, (atN : Int), 1 + rl + s * w, code, st2, false⟩ b = fN := fun _ _ _ _ => hfN
  have hfNI : ((fN : Nat) : Int) = 1 + rl + b * w := by
    have q3 := Int.mul_nonneg (show 0 ≤ b by omega) (show 0 ≤ w by omega)
    rw [← hfN]
    unfold cab.place
    dsimp only
    omega
  have hrr := (rightB_bd hR)
  have hsw : 0 ≤ s * w := Int.mul_nonneg (by omega) (by omega)
  have hsize : sizeI 5 w s c st il rl = 1 + rl + s * w := by simp [sizeI, hR, headI, recordsI]
  have hrecs : recordsI 5 s rl = s := by simp [recordsI]
  have hhd : headI 5 rl = 1 + rl := by simp [headI]
  have hi := hi rfl
  have hrN2 : reader.toNat = rN := by omega
  have hrl100 : rl ≤ 100 := by omega
  have hs16 : 1 ≤ s ∧ s ≤ 16 := by omega
  refine (Step_5_Write bx g atN ls.length cp (ropOf ⟨5, w, s, c, st, ia, il, ic, wr, ra, rl, rc, 2, reader, phase, i, tries, a, b, used, m, (atN : Int), 1 + rl + s * w, code, steps, false⟩ za u v) hln hcp (by omega) (by simp [ropOf, writesI]) hs hO (by show sizeI 5 w s c st il rl ≤ _; rw [hsize]; omega) W h.box (fun W' => After RelC bx g tn W v (cab.step ⟨5, w, s, c, st, ia, il, ic, wr, ra, rl, rc, 2, reader, phase, i, tries, a, b, used, m, (atN : Int), 1 + rl + s * w, code, steps, false⟩ mv rec ls) W') ?_).mono (fun e W' hh => hh)
  intro V hV hcV
  have hlV := h.lst.keep hcV (by simp; exact h.ne.symm)
  have hne := h.ne
  rcases hph with ⟨-, hph, hlen⟩ | ⟨h1, -⟩
  rotate_left
  · omega
  have hlen := hlen rfl
  rcases (show phase = 0 ∨ phase = 1 ∨ phase = 2 ∨ phase = 3 by omega) with rfl | rfl | rfl | rfl
  · have hu := hu0 rfl rfl
    subst hu
    refine (cabW_0 bx g atN (ls.length - atN) (cp - atN) (ropOf ⟨5, w, s, c, st, ia, il, ic, wr, ra, rl, rc, 2, reader, 0, i, tries, a, b, used, m, (atN : Int), 1 + rl + s * w, code, steps + 1, false⟩ za (fun _ => false) v) ls V hV hlV hwf (by omega) (by omega) (by omega) hne hs16 hrl100 (by show recordsI 5 s rl ≤ 16; rw [hrecs]; omega)).mono ?_
    rintro e W' ⟨rfl, hr, hl, hc⟩
    refine ⟨rfl, ?_⟩
    have hq : 0 ≤ ls.getD (atN + 0) 0 % s := Int.emod_nonneg _ (by omega)
    simp only [cab.step, cab.stepW, if_true, if_false, Int.toNat_natCast]
    have hmk0 := hmk rfl rfl (by decide)
    rw [if_neg (by decide)] at hmk0
    have hag : Agree s used (ls.getD (atN + 0) 0 % s) (noteU (recordsI 5 s rl) (fun _ => false) (ls.getD (atN + 0) 0 % s)) := by rw [hrecs]; exact Agree.start hq hmk0
    exact After.same h hcV (hc.mono (by simp)) hr rfl hl ⟨⟨rfl, hO, hR, hB⟩, .inl ⟨rfl, _, _, rfl, fun _ h1 => absurd h1 (by simp), fun _ _ => hag⟩⟩
  · obtain ⟨iN, rfl⟩ : ∃ n : Nat, i = (n : Int) := ⟨i.toNat, by omega⟩
    rw [if_pos (by simp)] at hi
    have hag := hu1 rfl rfl
    have hmk0 := hmk rfl rfl (by decide)
    rw [if_pos rfl] at hmk0
    have hv0 : 0 ≤ ls.getD (atN + (1 + iN)) 0 ∧ ls.getD (atN + (1 + iN)) 0 ≤ 4294967295 := hwf _ (by rw [List.getD_eq_getElem?_getD, List.getElem?_eq_getElem (show atN + (1 + iN) < ls.length by omega)]; exact List.getElem_mem _)
    have hag1 : Agree s (if 0 < ls.getD (atN + (1 + iN)) 0 then bitm.markU used (ls.getD (atN + (1 + iN)) 0 - 1) else used) a (if 0 < ls.getD (atN + (1 + iN)) 0 then noteU (recordsI 5 s rl) u (ls.getD (atN + (1 + iN)) 0 - 1) else u) := by
      rw [hrecs]
      split
      · exact hag.note (by omega) _ (by omega)
      · exact hag
    have hmk1 : bitm.Marks (if 0 < ls.getD (atN + (1 + iN)) 0 then bitm.markU used (ls.getD (atN + (1 + iN)) 0 - 1) else used) ((iN : Int) + 1) := by
      split
      · exact hmk0.mark (by omega)
      · exact hmk0.more (by omega)
    simp only [cab.step, cab.stepW, if_true, show ¬ ((1 : Int) = 0) by omega, if_false, Int.toNat_natCast]
    show Calls _ _ _ _ fun e W' => _ ∧ After RelC bx g tn W v (cab.scanC ⟨5, w, s, c, st, ia, il, ic, wr, ra, rl, rc, 2, reader, 1, (iN : Int), tries, a, b, used, mv, (atN : Int), 1 + rl + s * w, code, steps + 1, false⟩ (ls.getD (atN + (1 + iN)) 0), rec, ls) W'
    unfold cab.scanC
    dsimp only
    rw [Int.toNat_natCast]
    by_cases hlast : rl ≤ iN + 1
    · rw [if_pos hlast]
      obtain ⟨hf1, hf2, hf3, hf4⟩ := hag1.free (by omega) ha.1 hmk1 (by omega)
      refine (cabW_1b bx g atN (ls.length - atN) (cp - atN) iN (ropOf ⟨5, w, s, c, st, ia, il, ic, wr, ra, rl, rc, 2, reader, 1, (iN : Int), tries, a, b, used, m, (atN : Int), 1 + rl + s * w, code, steps + 1, false⟩ za u v) ls V hV hlV hwf (by omega) (by omega) (by omega) hne (by omega) hrl100 (by show recordsI 5 s rl ≤ 16; rw [hrecs]; omega) (by show iN + 1 = rl; omega) _ hf2 hf3 hf4).mono ?_
      rintro e W' ⟨rfl, hr, hl, hc⟩
      refine ⟨rfl, ?_⟩
      rw [hf1] at hr
      exact After.same h hcV (hc.mono (by simp)) hr rfl hl ⟨⟨rfl, hO, hR, hB⟩, .inl ⟨rfl, _, _, rfl, fun _ h1 => absurd h1 (by simp), fun _ h1 => absurd h1 (by simp)⟩⟩
    · rw [if_neg hlast]
      refine (cabW_1a bx g atN (ls.length - atN) (cp - atN) iN (ropOf ⟨5, w, s, c, st, ia, il, ic, wr, ra, rl, rc, 2, reader, 1, (iN : Int), tries, a, b, used, m, (atN : Int), 1 + rl + s * w, code, steps + 1, false⟩ za u v) ls V hV hlV hwf (by omega) (by omega) (by omega) hne (by omega) hrl100 (by show recordsI 5 s rl ≤ 16; rw [hrecs]; omega) (by show iN + 1 ≠ rl; omega)).mono ?_
      rintro e W' ⟨rfl, hr, hl, hc⟩
      refine ⟨rfl, ?_⟩
      exact After.same h hcV (hc.mono (by simp)) hr rfl hl ⟨⟨rfl, hO, hR, hB⟩, .inl ⟨rfl, _, _, rfl, fun _ h1 => absurd h1 (by simp), fun _ _ => hag1⟩⟩
  · rw [if_neg (by simp)] at hi
    obtain ⟨iN, rfl⟩ : ∃ n : Nat, i = (n : Int) := ⟨i.toNat, by omega⟩
    obtain ⟨wN, rfl⟩ : ∃ n : Nat, w = (n : Int) := ⟨w.toNat, by omega⟩
    obtain ⟨rg, rcap, hv, hcell⟩ := own_some h.own (by omega)
    change v = _ at hv
    subst hv
    have hrg := h.nv rg rfl
    refine (cabW_2 bx g rg atN (ls.length - atN) (cp - atN) iN rec.length rcap (ropOf ⟨5, (wN : Int), s, c, st, ia, il, ic, wr, ra, rl, rc, 2, reader, 2, (iN : Int), tries, a, b, used, m, (atN : Int), 1 + rl + s * (wN : Int), code, steps + 1, false⟩ za u (.slice (some ⟨rg, 0, none⟩) rec.length rcap)) ls (rec.getD iN 0) (fN + iN) V hV hlV (by simp [ropOf, writesI]) (by show rl ≤ 100; omega) hw (by omega) (by omega) ⟨hb.1, by show b ≤ _; omega⟩ (by show headI 5 rl + b * (wN : Int) + iN = _; rw [hhd]; push_cast; omega) (by omega) (by omega) (by omega) (hcV.keep (hcell iN (by omega)) (by simp; exact hrg.1)) hne hrg.1 hrg.2).mono ?_
    rintro e W' ⟨rfl, hr, hl, hc⟩
    refine ⟨rfl, ?_⟩
    simp only [cab.step, cab.stepW, if_true, show ¬ ((2 : Int) = 0) by omega, show ¬ ((2 : Int) = 1) by omega, if_false, Int.toNat_natCast, hfN2]
    change RAt W' bx (if (iN : Int) + 1 < (wN : Int) then _ else _) at hr
    by_cases hlast : wN ≤ iN + 1
    · rw [if_neg (show ¬ ((iN : Int) + 1 < (wN : Int)) from by omega)] at hr
      rw [if_pos hlast]
      exact After.same h hcV hc hr rfl hl ⟨⟨rfl, hO, hR, hB⟩, .inl ⟨rfl, _, _, rfl, fun _ h1 => absurd h1 (by simp), fun _ h1 => absurd h1 (by simp)⟩⟩
    · rw [if_pos (show ((iN : Int) + 1 < (wN : Int)) from by omega)] at hr
      rw [if_neg hlast]
      exact After.same h hcV hc hr rfl hl ⟨⟨rfl, hO, hR, hB⟩, .inl ⟨rfl, _, _, rfl, fun _ h1 => absurd h1 (by simp), fun _ h1 => absurd h1 (by simp)⟩⟩
  · refine (cabW_3 bx g atN (ls.length - atN) (cp - atN) (ropOf ⟨5, w, s, c, st, ia, il, ic, wr, ra, rl, rc, 2, reader, 3, i, tries, a, b, used, m, (atN : Int), 1 + rl + s * w, code, steps + 1, false⟩ za u v) ls V hV hlV hwf (by omega) (by omega) (by omega) hne).mono ?_
    rintro e W' ⟨rfl, hr, hl, hc⟩
    refine ⟨rfl, ?_⟩
    simp only [cab.step, cab.stepW, if_true, show ¬ ((3 : Int) = 0) by omega, show ¬ ((3 : Int) = 1) by omega, show ¬ ((3 : Int) = 2) by omega, if_false, Int.toNat_natCast]
    rw [show endRec 2 0 rec = [] from by simp [endRec]]
    exact After.none h hcV hc hr (by simp [ROp.ended, ropOf, writesI]) hl ⟨⟨rfl, hO, hR, hB⟩, .inl ⟨rfl, _, _, rfl, fun h1 _ => absurd h1 (by simp), fun h1 _ => absurd h1 (by simp)⟩⟩

set_option maxHeartbeats 4000000 in
theorem cabR_yes (bx g tn cp : Nat) (x : Core) (z : ROp) (rec ls : List Int) (W : World) (mv : Value) (hop : x.op = 1) (hI : cab.Shape x rec) (hrel : RelC x z) (ho : core.opens x ls.length = true) (hs : 0 ≤ x.steps ∧ x.steps ≤ 1000000) (hln : ls.length ≤ 100000) (hcp : ls.length ≤ cp) (hwf : ∀ z ∈ ls, 0 ≤ z ∧ z ≤ 4294967295) (h : Ref bx g tn W z rec ls) :
    Calls Try.prog 19 #[.pointer (some ⟨bx, 0, none⟩), .slice (some ⟨g, 0, none⟩) ls.length cp] W fun e W' => e = .returned (.bool true) ∧ After RelC bx g tn W z.rcd (cab.step x mv rec ls) W' := by
  obtain ⟨⟨hk, hO, hR, hB⟩, hrel⟩ := hrel
  obtain ⟨hz, hb1⟩ : z = ropC x (rowC x) z.rcd ∧ (x.over = false → x.b = 0 ∨ (x.b = 1 ∧ x.phase = 4)) := by
    rcases hrel with ⟨h1, -⟩ | ⟨-, h1⟩
    · omega
    · exact h1
  obtain ⟨v, hv⟩ : ∃ v, z.rcd = v := ⟨_, rfl⟩
  rw [hv] at hz ⊢
  clear hv hrel
  subst hz
  obtain ⟨hov, hb0, hs0, hfit⟩ := opens_specC ho
  obtain ⟨hw, hrl, hsl, ha, hb, hc0, hrd, htr, -, hsz, hmk, hi, hph⟩ := hI
  have hfa := cab.place_fit (x := x) (sl := x.a) (by omega) hw ha
  have hfb := cab.place_fit (x := x) (sl := x.b) (by omega) hw hb
  obtain ⟨atN, hat⟩ : ∃ atN : Nat, x.base = (atN : Int) := ⟨x.base.toNat, by omega⟩
  obtain ⟨rN, hrN⟩ : ∃ rN : Nat, x.reader = (rN : Int) := ⟨x.reader.toNat, by omega⟩
  obtain ⟨k, w, s, c, st, ia, il, ic, wr, ra, rl, rc, op, reader, phase, i, tries, a, b, used, m, base, size, code, steps, over⟩ := x
  dsimp only at hop hk hO hR hB hov hb0 hs0 hfit hw hrl ha hb hrd hsz hmk hi hph hat hrN hs ho hsl hc0 htr hfa hfb hb1
  subst hk hop hov hat hsz
  have hb1 := hb1 rfl
  obtain ⟨r, hr0⟩ : ∃ r, rowC ⟨5, w, s, c, st, ia, il, ic, wr, ra, rl, rc, 1, reader, phase, i, tries, a, b, used, m, (atN : Int), 1 + rl + s * w, code, steps, false⟩ = r := ⟨_, rfl⟩
  rw [hr0] at h
  obtain ⟨fN, hfN⟩ : ∃ fN : Nat, cab.place ⟨5, w, s, c, st, ia, il, ic, wr, ra, rl, rc, 1, reader, phase, i, tries, a, b, used, m, (atN : Int), 1 + rl + s * w, code, steps, false⟩ a = fN := ⟨_, rfl⟩
  rw [hfN] at hfa
  have hfN2 : ∀ (ph i2 st2 : Int) (m2 : Value), cab.place ⟨5, w, s, c, st, ia, il, ic, wr, ra, rl, rc, 1, reader, ph, i2, tries, a, b, used, m2, (atN : Int), 1 + rl + s * w, code, st2, false⟩ a = fN := fun _ _ _ _ => hfN
  have hfNI : ((fN : Nat) : Int) = 1 + rl + a * w := by
    have q3 := Int.mul_nonneg (show 0 ≤ a by omega) (show 0 ≤ w by omega)
    rw [← hfN]
    unfold cab.place
    dsimp only
    omega
  have hrr := (rightB_bd hR)
  have hsw : 0 ≤ s * w := Int.mul_nonneg (by omega) (by omega)
  have hsize : sizeI 5 w s c st il rl = 1 + rl + s * w := by simp [sizeI, hR, headI, recordsI]
  have hrecs : recordsI 5 s rl = s := by simp [recordsI]
  have hhd : headI 5 rl = 1 + rl := by simp [headI]
  have hi := hi rfl
  have hrN2 : reader.toNat = rN := by omega
  have hrl100 : rl ≤ 100 := by omega
  have hs16 : 1 ≤ s ∧ s ≤ 16 := by omega
  have htb : 0 ≤ tries ∧ tries ≤ 1000000 := by omega
  refine (Step_5_Read bx g atN ls.length cp (ropC ⟨5, w, s, c, st, ia, il, ic, wr, ra, rl, rc, 1, reader, phase, i, tries, a, b, used, m, (atN : Int), 1 + rl + s * w, code, steps, false⟩ r v) hln hcp (by omega) (by simp [ropC, ropOf, writesI]) hs hO (by show sizeI 5 w s c st il rl ≤ _; rw [hsize]; omega) W h.box (fun W' => After RelC bx g tn W v (cab.step ⟨5, w, s, c, st, ia, il, ic, wr, ra, rl, rc, 1, reader, phase, i, tries, a, b, used, m, (atN : Int), 1 + rl + s * w, code, steps, false⟩ mv rec ls) W') ?_).mono (fun e W' hh => hh)
  intro V hV hcV
  have hlV := h.lst.keep hcV (by simp; exact h.ne.symm)
  have hne := h.ne
  rcases hph with ⟨h1, -⟩ | ⟨-, hph, hlen⟩
  · omega
  have hlen := hlen rfl
  rcases (show phase = 0 ∨ phase = 1 ∨ phase = 2 ∨ phase = 3 ∨ phase = 4 by omega) with rfl | rfl | rfl | rfl | rfl
  · have hr1 : r = 0 := by rw [← hr0]; simp [rowC]
    subst hr1
    refine (cabR_0 bx g atN (ls.length - atN) (cp - atN) rN (ropC ⟨5, w, s, c, st, ia, il, ic, wr, ra, rl, rc, 1, reader, 0, i, tries, a, b, used, m, (atN : Int), 1 + rl + s * w, code, steps + 1, false⟩ 0 v) ls V hV hlV hwf (by omega) (by omega) (by omega) hne hs16 hrN (by omega)).mono ?_
    rintro e W' ⟨rfl, hr, hl, hc⟩
    refine ⟨rfl, ?_⟩
    simp only [cab.step, cab.stepR, if_true, show ¬ ((1 : Int) = 2) by omega, if_false, Int.toNat_natCast]
    exact After.same h hcV (hc.mono (by simp)) hr rfl hl (relC_read 1 ⟨rfl, hO, hR, hB⟩ rfl (by simp [rowC]) (fun _ => .inl (by show b = 0; omega)))
  · have hr1 : r = 1 := by rw [← hr0]; simp [rowC]
    subst hr1
    refine (cabR_1 bx g atN (ls.length - atN) (cp - atN) rN (ropC ⟨5, w, s, c, st, ia, il, ic, wr, ra, rl, rc, 1, reader, 1, i, tries, a, b, used, m, (atN : Int), 1 + rl + s * w, code, steps + 1, false⟩ 1 v) ls V hV hlV hwf (by omega) (by omega) (by omega) hne hs16 hrN (by omega) ⟨ha.1, by show a ≤ _; omega⟩).mono ?_
    rintro e W' ⟨rfl, hr, hl, hc⟩
    refine ⟨rfl, ?_⟩
    simp only [cab.step, cab.stepR, if_true, show ¬ ((1 : Int) = 2) by omega, show ¬ ((1 : Int) = 0) by omega, if_false, Int.toNat_natCast, hrN2]
    exact After.same h hcV hc hr rfl hl (relC_read 2 ⟨rfl, hO, hR, hB⟩ rfl (by simp [rowC]) (fun _ => .inl (by show b = 0; omega)))
  · have hr1 : r = 2 := by rw [← hr0]; simp [rowC]
    subst hr1
    refine (cabR_2 bx g atN (ls.length - atN) (cp - atN) rN (ropC ⟨5, w, s, c, st, ia, il, ic, wr, ra, rl, rc, 1, reader, 2, i, tries, a, b, used, m, (atN : Int), 1 + rl + s * w, code, steps + 1, false⟩ 2 v) ls V hV hlV hwf (by omega) (by omega) (by omega) hne hs16 hrN (by omega) htb).mono ?_
    rintro e W' ⟨rfl, hr, hl, hc⟩
    refine ⟨rfl, ?_⟩
    simp only [cab.step, cab.stepR, if_true, show ¬ ((1 : Int) = 2) by omega, show ¬ ((2 : Int) = 0) by omega, show ¬ ((2 : Int) = 1) by omega, if_false, Int.toNat_natCast]
    change RAt W' bx (if ls.getD (atN + 0) 0 % s = a then _ else if c ≤ tries + 1 then _ else _) at hr
    by_cases hf : ls.getD (atN + 0) 0 % s = a
    · rw [if_pos hf] at hr
      rw [if_pos hf, if_pos hf]
      exact After.same h hcV (hc.mono (by simp)) hr rfl hl (relC_read 3 ⟨rfl, hO, hR, hB⟩ rfl (by simp [rowC]) (fun _ => .inl (by show b = 0; omega)))
    · rw [if_neg hf] at hr
      rw [if_neg hf, if_neg hf]
      unfold cab.failC
      show After RelC bx g tn W v (if c ≤ tries + 1 then _ else _, [], ls) W'
      by_cases hcc : c ≤ tries + 1
      · rw [if_pos hcc] at hr ⊢
        exact After.none h hcV (hc.mono (by simp)) hr rfl hl (relC_read 5 ⟨rfl, hO, hR, hB⟩ rfl (by simp [rowC]) (fun _ => .inr ⟨rfl, rfl⟩))
      · rw [if_neg hcc] at hr ⊢
        exact After.none h hcV (hc.mono (by simp)) hr rfl hl (relC_read 0 ⟨rfl, hO, hR, hB⟩ rfl (by simp [rowC]) (fun _ => .inl (by show b = 0; omega)))
  · have hr1 : r = 3 := by rw [← hr0]; simp [rowC]
    subst hr1
    rw [if_neg (by simp)] at hi
    rw [if_pos rfl] at hlen
    obtain ⟨iN, rfl⟩ : ∃ n : Nat, i = (n : Int) := ⟨i.toNat, by omega⟩
    obtain ⟨wN, rfl⟩ : ∃ n : Nat, w = (n : Int) := ⟨w.toNat, by omega⟩
    obtain ⟨rp, rcap, hv⟩ := own_slice h.own
    change v = _ at hv
    subst hv
    have hoV := mem.own_chg h.own hcV (fun y hy => by have := h.nv y hy; simp; exact this.1)
    refine (cabR_3 0 bx g atN (ls.length - atN) (cp - atN) iN rec.length rcap rN (ropC ⟨5, (wN : Int), s, c, st, ia, il, ic, wr, ra, rl, rc, 1, reader, 3, (iN : Int), tries, a, b, used, m, (atN : Int), 1 + rl + s * (wN : Int), code, steps + 1, false⟩ 3 (.slice rp rec.length rcap)) rp ls rec (fN + iN) V hV hlV hwf (by simp [ropC, ropOf, writesI]) (by show rl ≤ 100; omega) hw (by omega) rfl (by omega) hs16 hrN (by omega) (by omega) ⟨ha.1, by show a ≤ _; omega⟩ (by show headI 5 rl + a * (wN : Int) + iN = _; rw [hhd]; push_cast; omega) (by omega) (by omega) (by omega) (Nat.zero_le _) hoV hne h.nv).mono ?_
    rintro e W' ⟨v', rfl, hr, hl, ho', hv', hc⟩
    refine ⟨rfl, ?_⟩
    simp only [cab.step, cab.stepR, if_true, show ¬ ((1 : Int) = 2) by omega, show ¬ ((3 : Int) = 0) by omega, show ¬ ((3 : Int) = 1) by omega, show ¬ ((3 : Int) = 2) by omega, if_false, Int.toNat_natCast, hfN2]
    have ho2 : mem.OwnW W' 0 v' (rec ++ [ls.getD (atN + (fN + iN)) 0]) := by
      unfold mem.OwnW
      rw [List.length_append]
      exact ho'
    unfold nextR at hr
    change RAt W' bx (if (iN : Int) + 1 < (wN : Int) then _ else if (4 : Int) < 0 then _ else _) at hr
    by_cases hlast : wN ≤ iN + 1
    · rw [if_neg (show ¬ ((iN : Int) + 1 < (wN : Int)) from by omega), if_neg (by omega)] at hr
      rw [if_pos hlast]
      have hbz : b = 0 := by omega
      exact After.more h hcV hc hr ho2 hv' hl (relC_read 4 ⟨rfl, hO, hR, hB⟩ rfl (by simp [rowC, hbz]) (fun _ => .inl (by show b = 0; omega)))
    · rw [if_pos (show ((iN : Int) + 1 < (wN : Int)) from by omega)] at hr
      rw [if_neg hlast]
      exact After.more h hcV hc hr ho2 hv' hl (relC_read 3 ⟨rfl, hO, hR, hB⟩ rfl (by simp [rowC]) (fun _ => .inl (by show b = 0; omega)))
  · rcases hb1 with rfl | ⟨rfl, -⟩
    · have hr1 : r = 4 := by rw [← hr0]; simp [rowC]
      subst hr1
      refine (cabR_4 bx g atN (ls.length - atN) (cp - atN) rN (ropC ⟨5, w, s, c, st, ia, il, ic, wr, ra, rl, rc, 1, reader, 4, i, tries, a, 0, used, m, (atN : Int), 1 + rl + s * w, code, steps + 1, false⟩ 4 v) ls V hV hlV hwf (by omega) (by omega) (by omega) hne hs16 hrN (by omega)).mono ?_
      rintro e W' ⟨rfl, hr, hl, hc⟩
      refine ⟨rfl, ?_⟩
      simp only [cab.step, cab.stepR, if_true, show ¬ ((1 : Int) = 2) by omega, show ¬ ((4 : Int) = 0) by omega, show ¬ ((4 : Int) = 1) by omega, show ¬ ((4 : Int) = 2) by omega, show ¬ ((4 : Int) = 3) by omega, if_false, Int.toNat_natCast, hrN2]
      rw [show endRec 1 0 rec = rec from by simp [endRec]]
      exact After.same h hcV hc hr (by simp [ROp.ended, ropC, ropOf, writesI]) hl ⟨⟨rfl, hO, hR, hB⟩, .inr ⟨rfl, by simp [ROp.ended, ropC, ropOf, writesI, rowC], fun h1 => absurd h1 (by simp)⟩⟩
    · have hr1 : r = 5 := by rw [← hr0]; simp [rowC]
      subst hr1
      refine (cabR_5 bx g atN (ls.length - atN) (cp - atN) rN (ropC ⟨5, w, s, c, st, ia, il, ic, wr, ra, rl, rc, 1, reader, 4, i, tries, a, 1, used, m, (atN : Int), 1 + rl + s * w, code, steps + 1, false⟩ 5 v) ls V hV hlV hwf (by omega) (by omega) (by omega) hne hs16 hrN (by omega)).mono ?_
      rintro e W' ⟨rfl, hr, hl, hc⟩
      refine ⟨rfl, ?_⟩
      simp only [cab.step, cab.stepR, if_true, show ¬ ((1 : Int) = 2) by omega, show ¬ ((4 : Int) = 0) by omega, show ¬ ((4 : Int) = 1) by omega, show ¬ ((4 : Int) = 2) by omega, show ¬ ((4 : Int) = 3) by omega, if_false, Int.toNat_natCast, hrN2]
      rw [show endRec 1 1 rec = [] from by simp [endRec]]
      exact After.none h hcV hc hr (by simp [ROp.ended]) hl ⟨⟨rfl, hO, hR, hB⟩, .inr ⟨rfl, by simp [ROp.ended, ropC, ropOf, writesI, rowC], fun h1 => absurd h1 (by simp)⟩⟩

theorem tiesC : Ties cab.K RelC where
  yes := by
    intro bx g tn cp x z rec ls W mv hI hrel ho hs hln hcp hwf h
    rcases (show x.op = 2 ∨ x.op = 1 from (cab.Shape.op hI).imp And.left And.left) with hop | hop
    · exact cabW_yes bx g tn cp x z rec ls W mv hop hI hrel ho hs hln hcp hwf h
    · exact cabR_yes bx g tn cp x z rec ls W mv hop hI hrel ho hs hln hcp hwf h
  no := by
    intro x z rec n hI hrel ho
    obtain ⟨⟨hk, hO, hR, hB⟩, hrel⟩ := hrel
    have hsz : x.size = 1 + x.rl + x.s * x.w := cab.Shape.size hI
    have hb : 0 ≤ x.base := cab.Shape.base hI
    have hw : 1 ≤ x.w ∧ x.w ≤ 8 := cab.Shape.w hI
    have hrl := cab.Shape.rl hI
    have hss := cab.Shape.s hI
    have hsw : 0 ≤ x.s * x.w := Int.mul_nonneg (by omega) (by omega)
    have hsize : sizeI 5 x.w x.s x.c x.st x.il x.rl = 1 + x.rl + x.s * x.w := by simp [sizeI, hR, headI, recordsI]
    have key : (x.over = true ∨ (n : Int) < x.base ∨ (n : Int) - x.base < sizeI x.k x.w x.s x.c x.st x.il x.rl) ∧ (0 ≤ x.base ∧ x.base ≤ 9223372036854775807) ∧ ObjW x.k x.w x.s x.c x.st x.il x.rl := by
      refine ⟨?_, ⟨hb, hB⟩, by rw [hk]; exact hO⟩
      rw [hk, hsize]
      cases hov : x.over
      · right
        simp only [core.opens, hov, Bool.not_false, Bool.true_and, insB, decide_eq_false_iff_not, hsz] at ho
        omega
      · exact .inl rfl
    rcases hrel with ⟨-, a, u, hz, -⟩ | ⟨-, hz, -⟩
    · rw [hz]; exact key
    · rw [hz]; exact key
  over := by rintro x z ⟨-, ⟨-, a, u, hz, -⟩ | ⟨-, hz, -⟩⟩ <;> (rw [hz]; rfl)
  steps := by rintro x z ⟨-, ⟨-, a, u, hz, -⟩ | ⟨-, hz, -⟩⟩ <;> (rw [hz]; rfl)
  code := by rintro x z ⟨-, ⟨-, a, u, hz, -⟩ | ⟨-, hz, -⟩⟩ <;> (rw [hz]; rfl)
end Go.Proofs.Ytjplamoofkcojaa.ref
