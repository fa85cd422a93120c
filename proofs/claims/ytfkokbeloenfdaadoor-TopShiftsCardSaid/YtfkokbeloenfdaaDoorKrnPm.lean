/- Parts joined: KrnSf, KrnSg, KrnSh. -/
import Derived.Test.YtfkokbeloenfdaaDoorKrnPl
import Derived.Test.YtfkokbeloenfdaaDoorKrnZi
/- The kernel, in plain Lean: a tick, later by n. -/
namespace Go.Proofs.YtfkokbeloenfdaaDoor.krn
set_option linter.unusedVariables false
set_option linter.unusedSimpArgs false
theorem get_sim {n : Int} {s s' : Led} {m : Nat} (h : LSim n s s') (hk : LedOK s m) (i : Nat) : (s'.get i).steps = (s.get i).steps ∧ (s'.get i).no = (s.get i).no := by
  by_cases hb : s.act.testBit i = true
  · have := (h.get hk hb).1
    exact ⟨this.steps, this.no⟩
  · unfold Led.get
    rw [if_neg hb, if_neg (by rw [h.act]; exact hb)]
    exact ⟨rfl, rfl⟩
theorem tick_sim {n : Int} {k k' : Kn} {out out' : List Ev} {m m' : Nat} (h : KSim n k k') (hk : KOK k m) (dem : List (List Int)) (f f' : Int → List Int) (t t' : Nat) (hf : f' (t' : Int) = f (t : Int)) (hko : KOK (openM k (f t)).1 m') (pre : List Ev) (ho : out' = pre ++ out.map (evS n)) :
    KSim n (tickM dem f (k, out) t).1 (tickM dem f' (k', out') t').1 ∧ (tickM dem f' (k', out') t').2 = pre ++ (tickM dem f (k, out) t).2.map (evS n) := by
  obtain ⟨h1, h2⟩ := open_sim h hk (f t)
  have hp : pickK (openM k' (f t)).1 = pickK (openM k (f t)).1 := by unfold pickK; rw [h1.prio, h1.led.act]
  have hg := get_sim h1.led hko.led (max (pickK (openM k (f t)).1) 0).toNat
  unfold tickM
  simp only [hf, hp, hg.1, hg.2]
  obtain ⟨h3, h4⟩ := close_sim h1 hko ((openM k (f t)).1.led.get (max (pickK (openM k (f t)).1) 0).toNat).steps (decide (stepsM dem (max (pickK (openM k (f t)).1) 0).toNat ((openM k (f t)).1.led.get (max (pickK (openM k (f t)).1) 0).toNat).no ≤ ((openM k (f t)).1.led.get (max (pickK (openM k (f t)).1) 0).toNat).steps + 1))
  refine ⟨h3, ?_⟩
  rw [h4, h2, ho]
  simp
end Go.Proofs.YtfkokbeloenfdaaDoor.krn

/- The kernel, in plain Lean: a run, later by n. -/
namespace Go.Proofs.YtfkokbeloenfdaaDoor.krn
set_option linter.unusedVariables false
set_option linter.unusedSimpArgs false
/-- a task whose first release, if it has any, comes later -/
def shT (n : Int) (t : Tk) : Tk := if t.kind = 1 then { t with offset := t.offset + n } else t
theorem shT_kind (n : Int) (t : Tk) : (shT n t).kind = t.kind ∧ (shT n t).prio = t.prio ∧ (shT n t).period = t.period ∧ (shT n t).deadline = t.deadline ∧ (shT n t).own = t.own ∧ (shT n t).code = t.code := by
  unfold shT
  split <;> exact ⟨rfl, rfl, rfl, rfl, rfl, rfl⟩
theorem newD_sh (n : Int) (l : List Tk) : ∀ j, j ≤ l.length → newD (l.map (shT n)) j = (newD l j).map (sh n)
  | 0, _ => rfl
  | j + 1, hj => by
    obtain ⟨t, ht⟩ : ∃ t, l[j]? = some t := ⟨_, List.getElem?_eq_getElem (by omega)⟩
    rw [newD_succ ht, newD_succ (t := shT n t) (by rw [List.getElem?_map, ht]; rfl), newD_sh n l j (by omega)]
    unfold newF
    rw [(shT_kind n t).1, List.length_map]
    by_cases hk : t.kind = 1
    · rw [if_pos hk, if_pos hk, ← pushM_sh]
      unfold shT sh
      rw [if_pos hk]
    · rw [if_neg hk, if_neg hk]
theorem newD_ge (n : Int) {l : List Tk} (hp : ∀ t ∈ l, PlainT t) : ∀ d ∈ newD (l.map (shT n)) l.length, n ≤ d.at_ := by
  intro d hd
  rw [newD_sh n l l.length (Nat.le_refl _)] at hd
  obtain ⟨x, hx, rfl⟩ := List.mem_map.1 hd
  have := ((newD_all l hp l.length (Nat.le_refl _)).2 x hx).1.1
  show n ≤ x.at_ + n
  omega
def idle (t : Nat) : Ev := ⟨t, 6, -1, 0, 0⟩
/-- nobody has a tick ahead of all that is due -/
theorem idle_tick (l : List Tk) (dem : List (List Int)) (f : Int → List Int) (out : List Ev) (t : Nat) (hf : f (t : Int) = []) (hd : ∀ d ∈ newD l l.length, (t : Int) < d.at_) :
    tickM dem f ({ kn0 l l.length with now := t }, out) t = ({ kn0 l l.length with now := (t + 1 : Nat) }, out ++ [idle t]) := by
  have hl : lateM (led0 l) (t : Int) = (led0 l, []) := by
    unfold lateM
    rw [show (led0 l).act = 0 from rfl, bitsM_zero]
    rfl
  have ho : openM { kn0 l l.length with now := (t : Int) } [] = ({ kn0 l l.length with now := (t : Int), opn := true }, []) := by
    unfold openM openA
    rw [show (Kn.mk (kn0 l l.length).l (kn0 l l.length).prio (kn0 l l.length).led (kn0 l l.length).due (kn0 l l.length).last (t : Int) (kn0 l l.length).opn).led = led0 l from rfl]
    rw [show (Kn.mk (kn0 l l.length).l (kn0 l l.length).prio (kn0 l l.length).led (kn0 l l.length).due (kn0 l l.length).last (t : Int) (kn0 l l.length).opn).due = newD l l.length from rfl]
    simp only [hl, untilM_none (t : Int) hd, List.foldl_nil, List.map_nil]
    rfl
  have hpk : pickK { kn0 l l.length with now := (t : Int), opn := true } = -1 := by
    unfold pickK pickM
    rw [show (Kn.mk (kn0 l l.length).l (kn0 l l.length).prio (kn0 l l.length).led (kn0 l l.length).due (kn0 l l.length).last (t : Int) true).led.act = 0 from rfl, bitsM_zero]
    rfl
  unfold tickM
  simp only [hf, ho]
  unfold closeM
  rw [hpk, if_neg (by decide)]
  rfl
theorem idle_run (l : List Tk) (dem : List (List Int)) (f : Int → List Int) : ∀ n : Nat, (∀ t : Nat, t < n → f (t : Int) = []) → (∀ d ∈ newD l l.length, (n : Int) ≤ d.at_) →
    runP l f dem n = ({ kn0 l l.length with now := n }, (List.range n).map idle)
  | 0, _, _ => rfl
  | n + 1, hf, hd => by
    rw [runP_succ, idle_run l dem f n (fun t ht => hf t (by omega)) (fun d h => by have := hd d h; omega), idle_tick l dem f _ n (hf n (by omega)) (fun d h => by have := hd d h; omega), List.range_succ, List.map_append]
    rfl
theorem kn0_sim (n : Int) (l : List Tk) : KSim n (kn0 l l.length) { kn0 (l.map (shT n)) (l.map (shT n)).length with now := n } where
  led := ⟨rfl, fun j x hx => (nomatch (hx : (([] : List Jb)[j]? = some x))), rfl, rfl, rfl, fun i => by
    show ((l.map (shT n))[i]?).map (·.deadline) = (l[i]?).map (·.deadline)
    rw [List.getElem?_map, Option.map_map]
    congr 1
    funext t
    exact (shT_kind n t).2.2.2.1⟩
  ll := by show (l.map (shT n)).length = l.length; simp
  kind := fun i => by
    show ((l.map (shT n))[i]?).map (·.kind) = (l[i]?).map (·.kind)
    rw [List.getElem?_map, Option.map_map]
    congr 1
    funext t
    exact (shT_kind n t).1
  period := fun i => by
    show ((l.map (shT n))[i]?).map (·.period) = (l[i]?).map (·.period)
    rw [List.getElem?_map, Option.map_map]
    congr 1
    funext t
    exact (shT_kind n t).2.2.1
  prio := by
    show ((l.map (shT n)).take (l.map (shT n)).length).map (·.prio) = (l.take l.length).map (·.prio)
    rw [List.take_length, List.take_length, List.map_map]
    congr 1
    funext t
    exact (shT_kind n t).2.1
  due := by
    show newD (l.map (shT n)) (l.map (shT n)).length = (newD l l.length).map (sh n)
    rw [List.length_map, newD_sh n l l.length (Nat.le_refl _)]
  last := fun i => rfl
  now := (Int.zero_add n).symm
  opn := rfl
/-- P5, in plain Lean -/
theorem run_sim (n : Nat) (l : List Tk) (hl : 1 ≤ l.length ∧ l.length ≤ 8) (hp : ∀ t ∈ l, PlainT t) (dem : List (List Int)) (f f' : Int → List Int) (h0 : ∀ t : Nat, t < n → f' (t : Int) = []) : ∀ ticks : Nat, ticks ≤ 2000 → (∀ t : Nat, t < ticks → f' ((n + t : Nat) : Int) = f (t : Int)) →
    KSim n (runP l f dem ticks).1 (runP (l.map (shT n)) f' dem (n + ticks)).1 ∧ (runP (l.map (shT n)) f' dem (n + ticks)).2 = (List.range n).map idle ++ (runP l f dem ticks).2.map (evS n)
  | 0, _, _ => by
    have h1 := idle_run (l.map (shT n)) dem f' n h0 (fun d hd => newD_ge n hp d (by rwa [List.length_map] at hd))
    rw [Nat.add_zero, h1]
    exact ⟨kn0_sim n l, by simp [runP]⟩
  | ticks + 1, ht, hf => by
    obtain ⟨ih1, ih2⟩ := run_sim n l hl hp dem f f' h0 ticks (by omega) (fun t h => hf t (by omega))
    have hk := (run_ok l hl hp f dem ticks (by omega)).1
    rw [← Nat.add_assoc, runP_succ, runP_succ]
    generalize runP l f dem ticks = p at ih1 ih2 hk ⊢
    generalize runP (l.map (shT n)) f' dem (n + ticks) = p' at ih1 ih2 ⊢
    obtain ⟨k, out⟩ := p
    obtain ⟨k', out'⟩ := p'
    exact tick_sim ih1 hk dem f f' ticks (n + ticks) (hf ticks (by omega)) (openM_ok hk _).1 _ ih2
/-- the asks, later by n -/
def shA (n ticks : Int) (asks : List Du) : List Du := (asks.filter fun d => decide (0 ≤ d.at_ ∧ d.at_ < ticks)).map (sh n)
theorem askAt_low (n : Nat) (ticks : Int) (asks : List Du) (t : Nat) (ht : t < n) : askAt (shA n ticks asks) (t : Int) = [] := by
  unfold askAt shA
  rw [List.map_eq_nil_iff, List.filter_eq_nil_iff]
  intro d hd
  obtain ⟨x, hx, rfl⟩ := List.mem_map.1 hd
  have := of_decide_eq_true (List.mem_filter.1 hx).2
  intro hc
  have h2 : x.at_ + n = (t : Int) := of_decide_eq_true hc
  omega
theorem askAt_sh (n ticks : Nat) (asks : List Du) (t : Nat) (ht : t < ticks) : askAt (shA n ticks asks) ((n + t : Nat) : Int) = askAt asks (t : Int) := by
  unfold askAt shA
  rw [List.filter_map, List.map_map, List.filter_filter]
  have h1 : ((fun x : Du => x.task) ∘ sh n) = fun x => x.task := rfl
  rw [h1]
  congr 1
  refine List.filter_congr (fun d _ => ?_)
  show (decide (d.at_ + n = ((n + t : Nat) : Int)) && decide (0 ≤ d.at_ ∧ d.at_ < ticks)) = decide (d.at_ = (t : Int))
  by_cases h : d.at_ = (t : Int)
  · rw [decide_eq_true h, decide_eq_true (by omega), decide_eq_true (by omega)]; rfl
  · rw [decide_eq_false h, decide_eq_false (by omega), Bool.false_and]
end Go.Proofs.YtfkokbeloenfdaaDoor.krn

/- The kernel, in plain Lean: the ticks of a run's events. -/
namespace Go.Proofs.YtfkokbeloenfdaaDoor.krn
set_option linter.unusedVariables false
set_option linter.unusedSimpArgs false
theorem letM_t (k : Kn) (i : Nat) : (letM k i).2.t = k.now ∧ (letM k i).1.now = k.now := by
  refine ⟨?_, rfl⟩
  unfold letM
  simp only
  split <;> rfl
theorem passM_now (k : Kn) (a : Int) : (passM k a).1.now = k.now := by
  unfold passM
  split <;> rfl
theorem snoc_t {p : List Ev} {e : Ev} {n : Int} (h : ∀ x ∈ p, x.t = n) (he : e.t = n) : ∀ x ∈ p ++ [e], x.t = n := by
  intro x hx
  rcases List.mem_append.1 hx with hx | hx
  · exact h x hx
  · rw [List.mem_singleton.1 hx]; exact he
theorem dues_t (n : Int) : ∀ (ds : List Du) (p : Kn × List Ev), p.1.now = n → (∀ e ∈ p.2, e.t = n) → (ds.foldl dueF p).1.now = n ∧ ∀ e ∈ (ds.foldl dueF p).2, e.t = n
  | [], p, h, h2 => ⟨h, h2⟩
  | d :: ds, p, h, h2 => by
    rw [List.foldl_cons]
    refine dues_t n ds _ h ?_
    exact snoc_t h2 ((letM_t p.1 d.task.toNat).1.trans h)
theorem asks_t (n : Int) : ∀ (l : List Int) (p : Kn × List Ev), p.1.now = n → (∀ e ∈ p.2, e.t = n) → (l.foldl askF p).1.now = n ∧ ∀ e ∈ (l.foldl askF p).2, e.t = n
  | [], p, h, h2 => ⟨h, h2⟩
  | a :: l, p, h, h2 => by
    rw [List.foldl_cons]
    have hs : (askF p a).1.now = n ∧ ∀ e ∈ (askF p a).2, e.t = n := by
      unfold askF
      split
      · exact ⟨(passM_now p.1 a).trans h, snoc_t h2 ((letM_t _ _).1.trans ((passM_now p.1 a).trans h))⟩
      · exact ⟨h, snoc_t h2 h⟩
    exact asks_t n l _ hs.1 hs.2
theorem openM_t (k : Kn) (asks : List Int) : (openM k asks).1.now = k.now ∧ ∀ e ∈ (openM k asks).2, e.t = k.now := by
  unfold openM
  have h := dues_t k.now (untilM k.now k.due).1 ({ (openA k).1 with due := (untilM k.now k.due).2 }, (openA k).2) rfl (by
    intro e he
    obtain ⟨i, -, rfl⟩ := List.mem_map.1 (show e ∈ (openA k).2 from he)
    rfl)
  exact asks_t k.now asks _ h.1 h.2
theorem stepK_t (k : Kn) (i : Nat) (at_ : Int) (ended : Bool) : ∀ e ∈ (stepK k i at_ ended).2, e.t = k.now := by
  intro e he
  unfold stepK at he
  split at he
  · simp only [List.mem_cons, List.not_mem_nil, or_false] at he
    rcases he with rfl | rfl <;> rfl
  · simp only [List.mem_cons, List.not_mem_nil, or_false] at he
    rw [he]; rfl
theorem closeM_t (k : Kn) (at_ : Int) (ended : Bool) : ∀ e ∈ (closeM k at_ ended).2, e.t = k.now := by
  intro e he
  unfold closeM at he
  split at he
  · exact stepK_t k _ at_ ended e he
  · simp only [List.mem_cons, List.not_mem_nil, or_false] at he
    rw [he]; rfl
theorem run_t (l : List Tk) (hl : 1 ≤ l.length ∧ l.length ≤ 8) (hp : ∀ t ∈ l, PlainT t) (f : Int → List Int) (dem : List (List Int)) : ∀ t : Nat, t ≤ 2000 → ∀ e ∈ (runP l f dem t).2, 0 ≤ e.t ∧ e.t ≤ 2000
  | 0, _ => fun e he => nomatch (he : e ∈ ([] : List Ev))
  | t + 1, ht => by
    have h := (run_ok l hl hp f dem t (by omega)).2.1
    have ih := run_t l hl hp f dem t (by omega)
    rw [runP_succ]
    generalize runP l f dem t = p at h ih ⊢
    intro e he
    unfold tickM at he
    simp only at he
    rcases List.mem_append.1 he with he | he
    · exact ih e he
    · have hn : e.t = p.1.now := by
        rcases List.mem_append.1 he with he | he
        · exact (openM_t p.1 _).2 e he
        · rw [closeM_t _ _ _ e he]; exact (openM_t p.1 _).1
      omega
end Go.Proofs.YtfkokbeloenfdaaDoor.krn
