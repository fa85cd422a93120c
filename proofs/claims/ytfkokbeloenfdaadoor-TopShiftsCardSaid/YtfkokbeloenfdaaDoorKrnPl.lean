/- Parts joined: KrnSa, KrnSb, KrnSc, KrnSd, KrnSe. -/
import Derived.Test.YtfkokbeloenfdaaDoorKrnZh
import Derived.Test.YtfkokbeloenfdaaDoorKrnZe
/- The kernel, in plain Lean: two kernels of which one is later by n. -/
namespace Go.Proofs.YtfkokbeloenfdaaDoor.krn
set_option linter.unusedVariables false
set_option linter.unusedSimpArgs false
structure JSim (n : Int) (x y : Jb) : Prop where
  tk : y.tk = x.tk
  no : y.no = x.no
  rel : y.rel = x.rel + n
  dl : y.dl = x.dl + n
  steps : y.steps = x.steps
  missed : y.missed = x.missed
structure LSim (n : Int) (s s' : Led) : Prop where
  len : s'.all.length = s.all.length
  all : ∀ (j : Nat) (x : Jb), s.all[j]? = some x → ∃ y, s'.all[j]? = some y ∧ JSim n x y
  now : s'.now = s.now
  counts : s'.counts = s.counts
  act : s'.act = s.act
  dls : ∀ i : Nat, (s'.l[i]?).map (·.deadline) = (s.l[i]?).map (·.deadline)
structure KSim (n : Int) (k k' : Kn) : Prop where
  led : LSim n k.led k'.led
  ll : k'.l.length = k.l.length
  kind : ∀ i : Nat, (k'.l[i]?).map (·.kind) = (k.l[i]?).map (·.kind)
  period : ∀ i : Nat, (k'.l[i]?).map (·.period) = (k.l[i]?).map (·.period)
  prio : k'.prio = k.prio
  due : k'.due = k.due.map (sh n)
  last : ∀ i, k'.last i = (k.last i).map (· + n)
  now : k'.now = k.now + n
  opn : k'.opn = k.opn
def evS (n : Int) (e : Ev) : Ev := { e with t := e.t + n }
theorem LSim.get {n : Int} {s s' : Led} {m : Nat} (h : LSim n s s') (hk : LedOK s m) {i : Nat} (hb : s.act.testBit i = true) : JSim n (s.get i) (s'.get i) ∧ s'.nowj i = s.nowj i := by
  obtain ⟨j, x, h1, h2, h3, h4⟩ := hk.job hb
  obtain ⟨y, h5, h6⟩ := h.all j x h2
  refine ⟨?_, by unfold Led.nowj; rw [h.now]⟩
  rw [h4, Led.get_of (by rw [h.act]; exact hb) (by rw [h.now]; exact h1) h5]
  exact h6
theorem LSim.set {n : Int} {s s' : Led} (h : LSim n s s') (j : Nat) {x y : Jb} (hx : JSim n x y) : LSim n { s with all := s.all.set j x } { s' with all := s'.all.set j y } := by
  refine ⟨by simp [h.len], fun k z hz => ?_, h.now, h.counts, h.act, h.dls⟩
  rw [List.getElem?_set] at hz
  by_cases hk : j = k
  · rw [if_pos hk] at hz
    split at hz
    · cases hz
      refine ⟨y, ?_, hx⟩
      rw [List.getElem?_set, if_pos hk, if_pos (by rw [h.len]; assumption)]
    · cases hz
  · rw [if_neg hk] at hz
    obtain ⟨y', h1, h2⟩ := h.all k z hz
    exact ⟨y', by rw [List.getElem?_set, if_neg hk]; exact h1, h2⟩
theorem late_sim {n t : Int} {m : Nat} : ∀ (l : List Nat) (s s' : Led) (out : List Nat), LSim n s s' → LedOK s m → (∀ i ∈ l, s.act.testBit i = true) → LSim n (l.foldl (lateF t) (s, out)).1 (l.foldl (lateF (t + n)) (s', out)).1 ∧ (l.foldl (lateF (t + n)) (s', out)).2 = (l.foldl (lateF t) (s, out)).2
  | [], s, s', out, h, _, _ => ⟨h, rfl⟩
  | i :: l, s, s', out, h, hk, hb => by
    rw [List.foldl_cons, List.foldl_cons]
    have hbi := hb i (by simp)
    obtain ⟨hg, hj⟩ := h.get hk hbi
    have hf := lateF_ok (out := out) hk t i hbi
    by_cases hc : (s.get i).missed = false ∧ (s.get i).dl ≤ t
    · have hc' : (s'.get i).missed = false ∧ (s'.get i).dl ≤ t + n := by rw [hg.missed, hg.dl]; exact ⟨hc.1, by omega⟩
      have e1 : lateF t (s, out) i = ({ s with all := s.all.set (s.nowj i) { s.get i with missed := true } }, out ++ [i]) := if_pos hc
      have e2 : lateF (t + n) (s', out) i = ({ s' with all := s'.all.set (s'.nowj i) { s'.get i with missed := true } }, out ++ [i]) := if_pos hc'
      rw [e1] at hf
      rw [e1, e2, hj]
      exact late_sim l _ _ _ (h.set _ ⟨hg.tk, hg.no, hg.rel, hg.dl, hg.steps, rfl⟩) hf.1 (fun x hx => hb x (by simp [hx]))
    · have hc' : ¬ ((s'.get i).missed = false ∧ (s'.get i).dl ≤ t + n) := by rw [hg.missed, hg.dl]; exact fun h => hc ⟨h.1, by omega⟩
      have e1 : lateF t (s, out) i = (s, out) := if_neg hc
      have e2 : lateF (t + n) (s', out) i = (s', out) := if_neg hc'
      rw [e1, e2]
      exact late_sim l _ _ _ h hk (fun x hx => hb x (by simp [hx]))
end Go.Proofs.YtfkokbeloenfdaaDoor.krn

/- The kernel, in plain Lean: releases, steps, ends, later by n. -/
namespace Go.Proofs.YtfkokbeloenfdaaDoor.krn
set_option linter.unusedVariables false
set_option linter.unusedSimpArgs false
theorem rel_sim {n t : Int} {s s' : Led} (h : LSim n s s') (i : Nat) : LSim n (relM s i t).1 (relM s' i (t + n)).1 ∧ (relM s' i (t + n)).2 = (relM s i t).2 := by
  unfold relM
  by_cases hb : s.act.testBit i = true
  · rw [if_pos hb, if_pos (by rw [h.act]; exact hb)]
    exact ⟨⟨h.len, h.all, h.now, h.counts, h.act, h.dls⟩, rfl⟩
  · rw [if_neg hb, if_neg (by rw [h.act]; exact hb)]
    refine ⟨⟨by simp [h.len], fun j x hx => ?_, by simp only [h.now, h.len], by simp only [h.counts], by simp only [h.act], h.dls⟩, by simp only [h.counts]⟩
    simp only at hx ⊢
    rcases Nat.lt_trichotomy j s.all.length with hl | hl | hl
    · rw [List.getElem?_append_left hl] at hx
      obtain ⟨y, h1, h2⟩ := h.all j x hx
      exact ⟨y, by rw [List.getElem?_append_left (by rw [h.len]; exact hl)]; exact h1, h2⟩
    · subst hl
      rw [List.getElem?_append_right (Nat.le_refl _), Nat.sub_self] at hx
      cases hx
      refine ⟨⟨i, (s'.counts (i : Int)).getD 0, t + n, t + n + ((s'.l[i]?).map (·.deadline)).getD 0, -1, -1, 0, false⟩, by rw [List.getElem?_append_right (by rw [h.len]; exact Nat.le_refl _), h.len, Nat.sub_self]; rfl, rfl, by simp only [h.counts], rfl, ?_, rfl, rfl⟩
      simp only [h.dls]
      omega
    · rw [List.getElem?_eq_none (by simp; omega)] at hx
      cases hx
theorem let_sim {n : Int} {k k' : Kn} (h : KSim n k k') (i : Nat) : KSim n (letM k i).1 (letM k' i).1 ∧ (letM k' i).2 = evS n (letM k i).2 := by
  have hr := rel_sim (t := k.now) h.led i
  unfold letM
  simp only [h.now, hr.2]
  refine ⟨⟨hr.1, h.ll, h.kind, h.period, h.prio, h.due, h.last, rfl, h.opn⟩, ?_⟩
  split <;> simp [Kn.ev, evS, h.now]
theorem step_sim {n t : Int} {m : Nat} {s s' : Led} (h : LSim n s s') (hk : LedOK s m) {i : Nat} (hb : s.act.testBit i = true) : LSim n (stepM s i t) (stepM s' i (t + n)) := by
  obtain ⟨hg, hj⟩ := h.get hk hb
  unfold stepM
  rw [hj]
  exact h.set _ ⟨hg.tk, hg.no, hg.rel, hg.dl, by simp only [stepJ, hg.steps], hg.missed⟩
theorem end_sim {n t : Int} {m : Nat} {s s' : Led} (h : LSim n s s') (hk : LedOK s m) {i : Nat} (hb : s.act.testBit i = true) : LSim n (endM s i t) (endM s' i (t + n)) := by
  obtain ⟨hg, hj⟩ := h.get hk hb
  have h1 := h.set (s.nowj i) (x := { s.get i with en := t + 1 }) (y := { s'.get i with en := t + n + 1 }) ⟨hg.tk, hg.no, hg.rel, hg.dl, hg.steps, hg.missed⟩
  unfold endM
  rw [hj]
  exact ⟨h1.len, h1.all, by simp only [h.now], h.counts, by simp only [h.act], h.dls⟩
end Go.Proofs.YtfkokbeloenfdaaDoor.krn

/- The kernel, in plain Lean: a tick's opening and closing, later by n. -/
namespace Go.Proofs.YtfkokbeloenfdaaDoor.krn
set_option linter.unusedVariables false
set_option linter.unusedSimpArgs false
theorem pass_sim {n : Int} {k k' : Kn} (h : KSim n k k') (a : Int) : KSim n (passM k a).1 (passM k' a).1 ∧ (passM k' a).2 = (passM k a).2 := by
  have h1 : askB k' a = askB k a := by unfold askB; rw [h.ll, h.kind]
  have h2 : perM k' a = perM k a := by unfold perM; rw [h.period]
  have h3 : freeB k' a = freeB k a := by
    unfold freeB
    rw [h.last]
    cases k.last a with
    | none => rfl
    | some v =>
      simp only [Option.map_some, h2, h.now]
      congr 2
      apply propext
      omega
  unfold passM
  rw [h1, h3]
  split
  · refine ⟨⟨h.led, h.ll, h.kind, h.period, h.prio, h.due, fun i => ?_, h.now, h.opn⟩, rfl⟩
    simp only [upd]
    split
    · rw [h.now]; rfl
    · exact h.last i
  · exact ⟨h, rfl⟩
theorem due_sim {n : Int} {k k' : Kn} {out out' : List Ev} (h : KSim n k k') (ho : out' = out.map (evS n)) (d : Du) : KSim n (dueF (k, out) d).1 (dueF (k', out') (sh n d)).1 ∧ (dueF (k', out') (sh n d)).2 = (dueF (k, out) d).2.map (evS n) := by
  obtain ⟨hl, he⟩ := let_sim h d.task.toNat
  have h2 : perM k' d.task = perM k d.task := by unfold perM; rw [h.period]
  refine ⟨⟨hl.led, hl.ll, hl.kind, hl.period, hl.prio, ?_, hl.last, hl.now, hl.opn⟩, ?_⟩
  · show pushM (k'.l.length : Int) k'.due ⟨d.at_ + n + perM k' d.task, d.task⟩ = (pushM (k.l.length : Int) k.due ⟨d.at_ + perM k d.task, d.task⟩).map (sh n)
    rw [h.due, h.ll, h2, ← pushM_sh]
    congr 2
    show d.at_ + n + perM k d.task = d.at_ + perM k d.task + n
    omega
  · show out' ++ [(letM k' d.task.toNat).2] = _
    rw [he, ho]
    simp [dueF]
theorem ask_sim {n : Int} {k k' : Kn} {out out' : List Ev} (h : KSim n k k') (ho : out' = out.map (evS n)) (a : Int) : KSim n (askF (k, out) a).1 (askF (k', out') a).1 ∧ (askF (k', out') a).2 = (askF (k, out) a).2.map (evS n) := by
  obtain ⟨hp, hb⟩ := pass_sim h a
  unfold askF
  rw [hb]
  split
  · obtain ⟨hl, he⟩ := let_sim hp a.toNat
    exact ⟨hl, by simp [he, ho]⟩
  · exact ⟨h, by simp [ho, Kn.ev, evS, h.now]⟩
end Go.Proofs.YtfkokbeloenfdaaDoor.krn

/- The kernel, in plain Lean: Open and Close, later by n. -/
namespace Go.Proofs.YtfkokbeloenfdaaDoor.krn
set_option linter.unusedVariables false
set_option linter.unusedSimpArgs false
theorem dues_sim {n : Int} : ∀ (ds : List Du) (p p' : Kn × List Ev), KSim n p.1 p'.1 → p'.2 = p.2.map (evS n) → KSim n (ds.foldl dueF p).1 ((ds.map (sh n)).foldl dueF p').1 ∧ ((ds.map (sh n)).foldl dueF p').2 = (ds.foldl dueF p).2.map (evS n)
  | [], p, p', h, ho => ⟨h, ho⟩
  | d :: ds, (k, out), (k', out'), h, ho => by
    rw [List.map_cons, List.foldl_cons, List.foldl_cons]
    obtain ⟨h1, h2⟩ := due_sim h ho d
    exact dues_sim ds _ _ h1 h2
theorem asks_sim {n : Int} : ∀ (l : List Int) (p p' : Kn × List Ev), KSim n p.1 p'.1 → p'.2 = p.2.map (evS n) → KSim n (l.foldl askF p).1 (l.foldl askF p').1 ∧ (l.foldl askF p').2 = (l.foldl askF p).2.map (evS n)
  | [], p, p', h, ho => ⟨h, ho⟩
  | a :: l, (k, out), (k', out'), h, ho => by
    rw [List.foldl_cons, List.foldl_cons]
    obtain ⟨h1, h2⟩ := ask_sim h ho a
    exact asks_sim l _ _ h1 h2
theorem open_sim {n : Int} {k k' : Kn} {m : Nat} (h : KSim n k k') (hk : KOK k m) (asks : List Int) : KSim n (openM k asks).1 (openM k' asks).1 ∧ (openM k' asks).2 = (openM k asks).2.map (evS n) := by
  have hb : ∀ i ∈ bitsM k.led.act, k.led.act.testBit i = true := fun i hi => bitsM_bit _ (by have := hk.led.act; omega) i hi
  have hl := late_sim (t := k.now) (bitsM k.led.act) k.led k'.led [] h.led hk.led hb
  have hlk := lateF_keep hk.led k.now k.now (bitsM k.led.act) [] k.led hk.led rfl rfl rfl hb (by simp) (fun j hj => hk.st j hj)
  have e1 : lateM k'.led k'.now = ((bitsM k.led.act).foldl (lateF (k.now + n)) (k'.led, [])) := by unfold lateM; rw [h.led.act, h.now]
  have e2 : lateM k.led k.now = ((bitsM k.led.act).foldl (lateF k.now) (k.led, [])) := rfl
  rw [← e1, ← e2] at hl
  rw [← e2] at hlk
  have hu := untilM_sh n k.now k.due.length k.due (Nat.le_refl _)
  have hA : KSim n { (openA k).1 with due := (untilM k.now k.due).2 } { (openA k').1 with due := (untilM k.now k.due).2.map (sh n) } := ⟨hl.1, h.ll, h.kind, h.period, h.prio, rfl, h.last, h.now, rfl⟩
  have hO : (openA k').2 = (openA k).2.map (evS n) := by
    unfold openA
    simp only [hl.2, List.map_map]
    refine List.map_congr_left (fun i hi => ?_)
    have hg := (hl.1.get hlk.1 (by rw [hlk.2.1]; exact hlk.2.2.2.1 i hi)).1
    show Ev.mk k'.now 4 i ((lateM k'.led k'.now).1.get i).no 0 = Ev.mk (k.now + n) 4 i ((lateM k.led k.now).1.get i).no 0
    rw [hg.no, h.now]
  have hd := dues_sim (untilM k.now k.due).1 ({ (openA k).1 with due := (untilM k.now k.due).2 }, (openA k).2) ({ (openA k').1 with due := (untilM k.now k.due).2.map (sh n) }, (openA k').2) hA hO
  unfold openM
  rw [h.due, h.now, hu]
  exact asks_sim asks _ _ hd.1 hd.2
end Go.Proofs.YtfkokbeloenfdaaDoor.krn

/- The kernel, in plain Lean: Close, later by n. -/
namespace Go.Proofs.YtfkokbeloenfdaaDoor.krn
set_option linter.unusedVariables false
set_option linter.unusedSimpArgs false
theorem stepK_sim {n : Int} {k k' : Kn} {m : Nat} (h : KSim n k k') (hk : KOK k m) {i : Nat} (hb : k.led.act.testBit i = true) (at_ : Int) (ended : Bool) : KSim n (stepK k i at_ ended).1 (stepK k' i at_ ended).1 ∧ (stepK k' i at_ ended).2 = (stepK k i at_ ended).2.map (evS n) := by
  have hs := step_sim (t := k.now) h.led hk.led hb
  have hok := stepM_ok hk.led i k.now hb (fun j hj => by have h1 := hk.st j hj; have h2 := hk.now.2; omega)
  have he := end_sim (t := k.now) hs hok.1 (i := i) hb
  have hg := (h.led.get hk.led hb).1
  unfold stepK
  cases ended with
  | true =>
    simp only [if_true, h.now]
    refine ⟨⟨he, h.ll, h.kind, h.period, h.prio, h.due, h.last, rfl, h.opn⟩, ?_⟩
    simp only [Kn.ev, evS, List.map_cons, List.map_nil, hg.no, hg.rel, h.now]
    congr 3
    omega
  | false =>
    simp only [Bool.false_eq_true, if_false, h.now]
    refine ⟨⟨hs, h.ll, h.kind, h.period, h.prio, h.due, h.last, rfl, h.opn⟩, ?_⟩
    simp only [Kn.ev, evS, List.map_cons, List.map_nil, hg.no, h.now]
theorem close_sim {n : Int} {k k' : Kn} {m : Nat} (h : KSim n k k') (hk : KOK k m) (at_ : Int) (ended : Bool) : KSim n (closeM k at_ ended).1 (closeM k' at_ ended).1 ∧ (closeM k' at_ ended).2 = (closeM k at_ ended).2.map (evS n) := by
  have hp : pickK k' = pickK k := by unfold pickK; rw [h.prio, h.led.act]
  unfold closeM
  rw [hp]
  by_cases h0 : 0 ≤ pickK k
  · rw [if_pos h0, if_pos h0]
    obtain ⟨i, hi, hb⟩ := pickK_bit hk h0
    rw [hi, Int.toNat_natCast]
    obtain ⟨hs, he⟩ := stepK_sim h hk hb at_ ended
    refine ⟨⟨hs.led, hs.ll, hs.kind, hs.period, hs.prio, hs.due, hs.last, ?_, rfl⟩, he⟩
    show k'.now + 1 = k.now + 1 + n
    rw [h.now]; omega
  · rw [if_neg h0, if_neg h0]
    refine ⟨⟨h.led, h.ll, h.kind, h.period, h.prio, h.due, h.last, ?_, rfl⟩, ?_⟩
    · show k'.now + 1 = k.now + 1 + n
      rw [h.now]; omega
    · simp only [Kn.ev, evS, List.map_cons, List.map_nil, h.now]
end Go.Proofs.YtfkokbeloenfdaaDoor.krn
