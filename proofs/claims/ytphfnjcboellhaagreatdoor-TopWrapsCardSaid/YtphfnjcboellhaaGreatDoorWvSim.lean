/- Parts joined: WvAi, WvAj, WvAk, WvAl, WvAm, WvAn, WvAo. -/
import Derived.Test.YtphfnjcboellhaaGreatDoorWvFin
import Derived.Test.YtphfnjcboellhaaGreatDoorWvRun
import Derived.Test.YtphfnjcboellhaaGreatDoorFourC
/- The weave: two looms that go alike; plain Lean. -/
namespace Go.Proofs.YtphfnjcboellhaaGreatDoor.wv
open Go Go.RowKit kit obj mem core
set_option linter.unusedVariables false
set_option linter.unusedSimpArgs false
/-- a step's two sides go alike -/
structure SimK (K : Kind) (Rc : Core → Core → Prop) (Rw : List Int → List Int → Prop) : Prop where
  step : ∀ {x x' : Core} {mv mv' : Value} {r ws ws' : List Int}, Rc x x' → Rw ws ws' → K.Shape x r → K.Shape x' r → x.over = false → x.base = 0 → x'.base = 0 → x.size = ws.length → (∀ z ∈ ws, 0 ≤ z ∧ z ≤ 4294967295) → (∀ z ∈ ws', 0 ≤ z ∧ z ≤ 4294967295) →
    Rc (K.step x mv r ws).1 (K.step x' mv' r ws').1 ∧ (K.step x' mv' r ws').2.1 = (K.step x mv r ws).2.1 ∧ Rw (K.step x mv r ws).2.2 (K.step x' mv' r ws').2.2
  over : ∀ {x x' : Core}, Rc x x' → x'.over = x.over ∧ x'.code = x.code
def OR (Rc : Core → Core → Prop) : Option (Core × List Int) → Option (Core × List Int) → Prop
  | none, none => True
  | some q, some q' => Rc q.1 q'.1 ∧ q'.2 = q.2
  | _, _ => False
structure PR (Rc : Core → Core → Prop) (p p' : PM) : Prop where
  left : p'.left = p.left
  call : p'.call = p.call
  o : OR Rc p.o p'.o
structure LoR (Rc : Core → Core → Prop) (Rw : List Int → List Int → Prop) (L L' : Lo) : Prop where
  ws : Rw L.ws L'.ws
  len : L'.ps.length = L.ps.length
  ps : ∀ (k : Nat) p p', L.ps[k]? = some p → L'.ps[k]? = some p' → PR Rc p p'
  cs : L'.cs = L.cs
  now : L'.now = L.now
section
variable {K : Kind} {Rc : Core → Core → Prop} {Rw : List Int → List Int → Prop}
theorem PR.over {p p' : PM} (S : SimK K Rc Rw) (h : PR Rc p p') : p'.over = p.over := by
  have ho := h.o
  unfold PM.over
  cases hp : p.o with
  | none =>
    cases hp' : p'.o with
    | none => rfl
    | some q' => rw [hp, hp'] at ho; exact (show False from ho).elim
  | some q =>
    cases hp' : p'.o with
    | none => rw [hp, hp'] at ho; exact (show False from ho).elim
    | some q' =>
      rw [hp, hp'] at ho
      have ho : Rc q.1 q'.1 ∧ q'.2 = q.2 := ho
      exact (S.over ho.1).1
theorem beginM_sim {o o' : ObV} {L L' : Lo} {k : Nat} {p p' : PM} (S : SimK K Rc Rw) (hfr : ∀ op rd, Rc (frO o op rd) (frO o' op rd)) (h : LoR Rc Rw L L') (hp : PR Rc p p') :
    (beginM (frO o) k L p = none ∧ beginM (frO o') k L' p' = none) ∨ ∃ q q' cs, beginM (frO o) k L p = some (q, cs) ∧ beginM (frO o') k L' p' = some (q', cs) ∧ PR Rc q q' := by
  have hov := hp.over S
  unfold beginM
  rw [hov, hp.left, h.cs, h.now]
  by_cases ho : p.over = false
  · rw [if_pos ho, if_pos ho]
    exact .inr ⟨p, p', L.cs, rfl, rfl, hp⟩
  · rw [if_neg ho, if_neg ho]
    match p.left with
    | [] => exact .inl ⟨rfl, rfl⟩
    | t :: l => exact .inr ⟨_, _, _, rfl, rfl, ⟨rfl, rfl, hfr _ _, rfl⟩⟩
theorem turnM_sim {kk : Nat} {w0 r0 : Int} {o o' : ObV} {L L' : Lo} {mv mv' : Value} (S : SimK K Rc Rw) (hfr : ∀ op rd, Rc (frO o op rd) (frO o' op rd)) (h : LoR Rc Rw L L') (hw : WF kk w0 r0 K o L) (hw' : WF kk w0 r0 K o' L') (hf : Fine L) (hf' : Fine L') (k : Int) : LoR Rc Rw (turnM K mv (frO o) L k).1 (turnM K mv' (frO o') L' k).1 := by
  unfold turnM
  by_cases hk : k < 0
  · rw [if_pos hk, if_pos hk]; exact h
  · rw [if_neg hk, if_neg hk]
    match hp : L.ps[k.toNat]?, hp' : L'.ps[k.toNat]? with
    | none, none => exact h
    | none, some p' =>
      have h1 := List.getElem?_eq_none_iff.1 hp
      have h2 := (List.getElem?_eq_some_iff.1 hp').1
      have := h.len
      omega
    | some p, none =>
      have h1 := List.getElem?_eq_none_iff.1 hp'
      have h2 := (List.getElem?_eq_some_iff.1 hp).1
      have := h.len
      omega
    | some p, some p' =>
      simp only
      rcases beginM_sim (k := k.toNat) S hfr h (h.ps _ _ _ hp hp') with ⟨e1, e2⟩ | ⟨q, q', cs, e1, e2, hq⟩
      · simp only [e1, e2]; exact h
      · simp only [e1, e2]
        obtain ⟨x, r, a1, a2, a3, a4, a5, a6, a7⟩ := (beginM_wb hw hp e1 (frO_over o)).op
        obtain ⟨x', r', b1, b2, b3, b4, b5, b6, b7⟩ := (beginM_wb hw' hp' e2 (frO_over o')).op
        have hqo := hq.o
        rw [a1, b1] at hqo
        obtain ⟨hc, hr⟩ := hqo
        simp only at hc hr
        subst hr
        obtain ⟨s1, s2, s3⟩ := S.step (mv := mv) (mv' := mv') hc h.ws a3 b3 a2 a5 b5 a6 hf.ws hf'.ws
        obtain ⟨s4, s5⟩ := S.over s1
        unfold stepM
        rw [a1, b1]
        refine ⟨s3, by show (L'.ps.set _ _).length = (L.ps.set _ _).length; rw [List.length_set, List.length_set]; exact h.len, fun j m m' hm hm' => ?_, ?_, by show L'.now + 1 = L.now + 1; rw [h.now]⟩
        · rcases get_set hm with ⟨rfl, rfl⟩ | ⟨n1, h1⟩
          · rcases get_set hm' with ⟨-, rfl⟩ | ⟨n2, h2⟩
            · exact ⟨hq.left, hq.call, s1, s2⟩
            · exact absurd rfl n2
          · rcases get_set hm' with ⟨e, rfl⟩ | ⟨n2, h2⟩
            · exact absurd e n1
            · exact h.ps j m m' h1 h2
        · show (if _ then _ else _) = (if _ then _ else _)
          rw [s4, hq.call]
          have he : endC k.toNat L'.now (K.step x' mv' r' L'.ws).1 (K.step x' mv' r' L'.ws).2.1 = endC k.toNat L.now (K.step x mv r' L.ws).1 (K.step x mv r' L.ws).2.1 := by
            funext c
            unfold endC
            rw [s2, s5, h.now]
          rw [he]
theorem runs_sim {kk : Nat} {w0 r0 : Int} {o o' : ObV} {L L' : Lo} {mv mv' : Value} {ts : List Int} (S : SimK K Rc Rw) (hfr : ∀ op rd, Rc (frO o op rd) (frO o' op rd)) (h : LoR Rc Rw L L') (hg : Good kk w0 r0 K o mv L ts) (hg' : Good kk w0 r0 K o' mv' L' ts) : LoR Rc Rw (turnsM K mv (frO o) L ts) (turnsM K mv' (frO o') L' ts) := by
  have hj : ∀ j, j ≤ ts.length → LoR Rc Rw (turnsM K mv (frO o) L (ts.take j)) (turnsM K mv' (frO o') L' (ts.take j)) := by
    intro j
    induction j with
    | zero => intro _; exact h
    | succ j ih =>
      intro hj
      obtain ⟨t, ht⟩ : ∃ t, ts[j]? = some t := ⟨_, List.getElem?_eq_getElem hj⟩
      rw [show ts.take (j + 1) = ts.take j ++ [t] by rw [List.take_add_one, ht]; rfl, turnsM_snoc, turnsM_snoc]
      obtain ⟨h1, h2, -⟩ := hg j (by omega)
      obtain ⟨h1', h2', -⟩ := hg' j (by omega)
      exact turnM_sim S hfr (ih (by omega)) h1 h1' h2 h2' t
  have := hj ts.length (Nat.le_refl _)
  rwa [List.take_length] at this
theorem LoR.start {ws ws' : List Int} {ps : List Pr} (h : Rw ws ws') : LoR Rc Rw (lo0 ws ps) (lo0 ws' ps) := by
  refine ⟨h, rfl, fun k p p' hp hp' => ?_, rfl, rfl⟩
  have e : (lo0 ws ps).ps[k]? = (lo0 ws' ps).ps[k]? := rfl
  rw [e] at hp
  rw [hp] at hp'
  injection hp' with hp'
  subst hp'
  simp only [lo0, List.getElem?_map, Option.map_eq_some_iff] at hp
  obtain ⟨q, e1, rfl⟩ := hp
  exact ⟨rfl, rfl, trivial⟩
end
/-- a kind whose object is not moved -/
theorem simk_free {K : Kind} (hK : K.Free) : SimK K (fun x x' => ∃ a, x' = { x with m := a }) (fun ws ws' => ws' = ws) where
  step := by
    rintro x x' mv mv' r ws ws' ⟨a, rfl⟩ rfl - - - - - - - -
    rw [hK.free, hK.relabel x mv mv']
    exact ⟨⟨mv', rfl⟩, rfl, rfl⟩
  over := by
    rintro x x' ⟨a, rfl⟩
    exact ⟨rfl, rfl⟩
end Go.Proofs.YtphfnjcboellhaaGreatDoor.wv

/- The weave: seq's counter moved; plain Lean. -/
namespace Go.Proofs.YtphfnjcboellhaaGreatDoor.wv
open Go Go.RowKit kit obj mem core
set_option linter.unusedVariables false
set_option linter.unusedSimpArgs false
def seqRc (D : Int) (x x' : Core) : Prop := ∃ st m a, x' = { x with st := st, m := m, a := a } ∧ (x.phase ≠ 0 → a = (x.a + D) % 4294967296)
def seqRw (D : Int) (ws ws' : List Int) : Prop := ∃ v l, ws = v :: l ∧ ws' = (v + D) % 4294967296 :: l
set_option maxHeartbeats 1000000 in
theorem simk_seq {D : Int} (hD : D % 2 = 0) : SimK seq.K (seqRc D) (seqRw D) where
  step := by
    rintro x x' mv mv' r ws ws' ⟨st, m, a, rfl, ha⟩ ⟨v, l, rfl, rfl⟩ hs - hov hb - hsz hws -
    have hxa := seq.Shape.a hs
    have hv := hws v (by simp)
    show seqRc D (seq.step _ _ _ _).1 (seq.step _ _ _ _).1 ∧ (seq.step _ _ _ _).2.1 = (seq.step _ _ _ _).2.1 ∧ seqRw D (seq.step _ _ _ _).2.2 (seq.step _ _ _ _).2.2
    by_cases hop : x.op = 2
    · simp only [seq.step, if_pos hop, seq.stepW, hb]
      by_cases p0 : x.phase = 0
      · simp only [if_pos p0]
        exact ⟨⟨st, mv', _, rfl, fun _ => by simp⟩, (by first | trivial | rfl), v, l, rfl, rfl⟩
      by_cases p1 : x.phase = 1
      · have e := ha p0
        simp only [if_neg p0, if_pos p1]
        refine ⟨⟨st, mv', a, rfl, fun _ => e⟩, (by first | trivial | rfl), (x.a + 1) % 4294967296, l, by simp, ?_⟩
        rw [e]
        simp
        omega
      by_cases p2 : x.phase = 2
      · have e := ha p0
        simp only [if_neg p0, if_neg p1, if_pos p2]
        refine ⟨?_, (by first | trivial | rfl), v, l.set x.i.toNat (r.getD x.i.toNat 0), ?_, ?_⟩
        · split
          · exact ⟨st, mv', a, rfl, fun _ => e⟩
          · exact ⟨st, mv', a, rfl, fun _ => e⟩
        · rw [show Int.toNat 0 + (1 + x.i.toNat) = x.i.toNat + 1 by simp; omega]; rfl
        · rw [show Int.toNat 0 + (1 + x.i.toNat) = x.i.toNat + 1 by simp; omega]; rfl
      · have e := ha p0
        simp only [if_neg p0, if_neg p1, if_neg p2]
        refine ⟨⟨st, mv', a, rfl, fun _ => e⟩, (by first | trivial | rfl), (x.a + 2) % 4294967296, l, by simp, ?_⟩
        rw [e]
        simp
        omega
    · simp only [seq.step, if_neg hop, seq.stepR, hb]
      by_cases p0 : x.phase = 0
      · simp only [if_pos p0]
        have e0 : (v :: l).getD (Int.toNat 0 + 0) 0 = v := rfl
        have e1 : ((v + D) % 4294967296 :: l).getD (Int.toNat 0 + 0) 0 = (v + D) % 4294967296 := rfl
        rw [e0, e1]
        have he : ((v + D) % 4294967296 % 2 = 1) = (v % 2 = 1) := by apply propext; omega
        simp only [he]
        by_cases hodd : v % 2 = 1
        · simp only [if_pos hodd]
          refine ⟨?_, (by first | trivial | rfl), v, l, rfl, rfl⟩
          unfold seq.failC
          split
          · exact ⟨st, mv', _, rfl, fun h => absurd rfl h⟩
          · exact ⟨st, mv', _, rfl, fun h => absurd rfl h⟩
        · simp only [if_neg hodd]
          exact ⟨⟨st, mv', _, rfl, fun _ => rfl⟩, (by first | trivial | rfl), v, l, rfl, rfl⟩
      by_cases p1 : x.phase = 1
      · have e := ha p0
        simp only [if_neg p0, if_pos p1]
        refine ⟨?_, ?_, v, l, rfl, rfl⟩
        · split
          · exact ⟨st, mv', a, rfl, fun _ => e⟩
          · exact ⟨st, mv', a, rfl, fun _ => e⟩
        · rw [show Int.toNat 0 + (1 + x.i.toNat) = x.i.toNat + 1 by simp; omega]; rfl
      · have e := ha p0
        simp only [if_neg p0, if_neg p1]
        have e0 : (v :: l).getD (Int.toNat 0 + 0) 0 = v := rfl
        have e1 : ((v + D) % 4294967296 :: l).getD (Int.toNat 0 + 0) 0 = (v + D) % 4294967296 := rfl
        rw [e0, e1, e]
        have he : ((v + D) % 4294967296 = (x.a + D) % 4294967296) = (v = x.a) := by apply propext; omega
        simp only [he]
        by_cases hq : v = x.a
        · simp only [if_pos hq]
          exact ⟨⟨st, mv', _, rfl, fun _ => rfl⟩, (by first | trivial | rfl), v, l, rfl, rfl⟩
        · simp only [if_neg hq]
          refine ⟨?_, (by first | trivial | rfl), v, l, rfl, rfl⟩
          unfold seq.failC
          split
          · exact ⟨st, mv', _, rfl, fun h => absurd rfl h⟩
          · exact ⟨st, mv', _, rfl, fun h => absurd rfl h⟩
  over := by
    rintro x x' ⟨st, m, a, rfl, -⟩
    exact ⟨rfl, rfl⟩
theorem seqRw_start {st st' : Int} (h : 0 ≤ st' ∧ st' ≤ 4294967295) (ini : List Int) : seqRw (st' - st) (seq.layL st ini) (seq.layL st' ini) := ⟨st, ini, rfl, by unfold seq.layL; congr 1; omega⟩
end Go.Proofs.YtphfnjcboellhaaGreatDoor.wv

/- The weave: slots that are turned on by some; plain Lean. -/
namespace Go.Proofs.YtphfnjcboellhaaGreatDoor.wv
open Go Go.RowKit kit obj mem core
set_option linter.unusedVariables false
set_option linter.unusedSimpArgs false
theorem addm (x y m : Int) : (x % m + y) % m = (x + y) % m := by
  rw [Int.emod_def x m, show x - m * (x / m) + y = (x + y) + m * (-(x / m)) by rw [Int.mul_neg]; omega, Int.add_mul_emod_self_left]
theorem subm (x y m : Int) : (x - y % m) % m = (x - y) % m := by
  rw [Int.emod_def y m, show x - (y - m * (y / m)) = (x - y) + m * (y / m) by omega, Int.add_mul_emod_self_left]
theorem gap_eq (f t m : Int) (hm : m ≠ 0) : word.gapU f t m = (t - f) % m := by
  unfold word.gapU
  rw [if_neg hm, show t % m + m - f % m = t % m + (m - f % m) by omega, addm, show t + (m - f % m) = (t + m) - f % m by omega, subm, show t + m - f = (t - f) + m * 1 by omega, Int.add_mul_emod_self_left]
theorem gap_shift (f t m D : Int) (hm : m ≠ 0) : word.gapU ((f + D) % m) ((t + D) % m) m = word.gapU f t m := by
  rw [gap_eq _ _ _ hm, gap_eq _ _ _ hm, subm, show (t + D) % m - (f + D) = (t + D) % m + (-(f + D)) by omega, addm]
  congr 1
  omega
/-- the slot that is d further on -/
def rot (s d j : Nat) : Nat := if j + d < s then j + d else j + d - s
theorem rot_lt {s d j : Nat} (hd : d < s) (hj : j < s) : rot s d j < s := by unfold rot; split <;> omega
theorem rot_inj {s d j k : Nat} (hd : d < s) (hj : j < s) (hk : k < s) (h : rot s d j = rot s d k) : j = k := by
  unfold rot at h
  split at h <;> split at h <;> omega
theorem rot_mod {s : Nat} (hs : 0 < s) (a D : Int) : ((a + D) % (s : Int)).toNat = rot s (D % (s : Int)).toNat (a % (s : Int)).toNat := by
  have hs' : (s : Int) ≠ 0 := by omega
  have h1 := Int.emod_nonneg a hs'
  have h2 := Int.emod_lt_of_pos a (show (0 : Int) < s by omega)
  have h3 := Int.emod_nonneg D hs'
  have h4 := Int.emod_lt_of_pos D (show (0 : Int) < s by omega)
  have e : (a + D) % (s : Int) = (a % s + D % s) % s := Int.add_emod _ _ _
  rw [e]
  generalize a % (s : Int) = x at *
  generalize D % (s : Int) = y at *
  unfold rot
  by_cases hlt : x + y < s
  · rw [if_pos (by omega), Int.emod_eq_of_lt (by omega) hlt]; omega
  · rw [if_neg (by omega), show x + y = (x + y - s) + s * 1 by omega, Int.add_mul_emod_self_left, Int.emod_eq_of_lt (by omega) (by omega)]; omega
theorem idx_inj {w j i k l : Nat} (hi : i < w) (hl : l < w) (h : j * w + i = k * w + l) : j = k ∧ i = l := by
  rcases Nat.lt_trichotomy j k with h1 | h1 | h1
  · have := Nat.mul_le_mul_right w (show j + 1 ≤ k from h1)
    rw [Nat.add_mul, Nat.one_mul] at this
    omega
  · subst h1; exact ⟨rfl, by omega⟩
  · have := Nat.mul_le_mul_right w (show k + 1 ≤ j from h1)
    rw [Nat.add_mul, Nat.one_mul] at this
    omega
theorem idx_lt {s w j i : Nat} (hj : j < s) (hi : i < w) : j * w + i < s * w := by
  have := Nat.mul_le_mul_right w (show j + 1 ≤ s from hj)
  rw [Nat.add_mul, Nat.one_mul] at this
  omega
theorem getD_set (l : List Int) (n m : Nat) (v : Int) : (l.set n v).getD m 0 = if n = m ∧ n < l.length then v else l.getD m 0 := by
  rw [List.getD_eq_getElem?_getD, List.getD_eq_getElem?_getD, List.getElem?_set]
  by_cases h : n = m
  · subst h
    by_cases h2 : n < l.length
    · rw [if_pos rfl, if_pos h2, if_pos ⟨rfl, h2⟩]; rfl
    · rw [if_pos rfl, if_neg h2, if_neg (fun h => h2 h.2), List.getElem?_eq_none (by omega)]
  · rw [if_neg h, if_neg (fun h3 => h h3.1)]
/-- words behind h counters: the counters D further on, the slots turned by d -/
structure RotW (h s w : Nat) (M D : Int) (d : Nat) (ws ws' : List Int) : Prop where
  len : ws.length = h + s * w
  len' : ws'.length = h + s * w
  head : ∀ c, c < h → 0 ≤ ws.getD c 0 ∧ ws.getD c 0 < M ∧ ws'.getD c 0 = (ws.getD c 0 + D) % M
  slot : ∀ j i, j < s → i < w → ws'.getD (h + (rot s d j * w + i)) 0 = ws.getD (h + (j * w + i)) 0
section
variable {h s w : Nat} {M D : Int} {d : Nat} {ws ws' : List Int}
theorem RotW.setHead (R : RotW h s w M D d ws ws') {c : Nat} (hc : c < h) {v v' : Int} (hv : 0 ≤ v ∧ v < M) (hv' : v' = (v + D) % M) : RotW h s w M D d (ws.set c v) (ws'.set c v') := by
  subst hv'
  refine ⟨by rw [List.length_set]; exact R.len, by rw [List.length_set]; exact R.len', fun e he => ?_, fun j i hj hi => ?_⟩
  · rw [getD_set, getD_set, R.len, R.len']
    by_cases h1 : c = e
    · rw [if_pos ⟨h1, by omega⟩, if_pos ⟨h1, by omega⟩]; exact ⟨hv.1, hv.2, rfl⟩
    · rw [if_neg (fun h2 => h1 h2.1), if_neg (fun h2 => h1 h2.1)]; exact R.head e he
  · rw [getD_set, getD_set, if_neg (fun h2 => by omega), if_neg (fun h2 => by omega)]
    exact R.slot j i hj hi
theorem RotW.setSlot (R : RotW h s w M D d ws ws') (hd : d < s) {j i : Nat} (hj : j < s) (hi : i < w) (y : Int) : RotW h s w M D d (ws.set (h + (j * w + i)) y) (ws'.set (h + (rot s d j * w + i)) y) := by
  have b1 := idx_lt hj hi
  have b2 := idx_lt (rot_lt hd hj) hi
  refine ⟨by rw [List.length_set]; exact R.len, by rw [List.length_set]; exact R.len', fun e he => ?_, fun k l hk hl => ?_⟩
  · rw [getD_set, getD_set, if_neg (fun h2 => by omega), if_neg (fun h2 => by omega)]
    exact R.head e he
  · rw [getD_set, getD_set, R.len, R.len']
    by_cases h1 : j = k ∧ i = l
    · obtain ⟨rfl, rfl⟩ := h1
      rw [if_pos ⟨rfl, by omega⟩, if_pos ⟨rfl, by omega⟩]
    · rw [if_neg (fun h2 => h1 ?_), if_neg (fun h2 => h1 (idx_inj hi hl (by omega)))]
      · exact R.slot k l hk hl
      · have h3 := idx_inj hi hl (show rot s d j * w + i = rot s d k * w + l by omega)
        exact ⟨rot_inj hd hj hk h3.1, h3.2⟩
end
end Go.Proofs.YtphfnjcboellhaaGreatDoor.wv

/- The weave: ring's counter moved; plain Lean. -/
namespace Go.Proofs.YtphfnjcboellhaaGreatDoor.wv
open Go Go.RowKit kit obj mem core
set_option linter.unusedVariables false
set_option linter.unusedSimpArgs false
def ringRc (s w : Nat) (D : Int) (x x' : Core) : Prop := ∃ st m a, x' = { x with st := st, m := m, a := a } ∧ x.s = (s : Int) ∧ x.w = (w : Int) ∧ (x.phase ≠ 0 → (0 ≤ x.a ∧ x.a < (s : Int) * 1048576) ∧ a = (x.a + D) % ((s : Int) * 1048576))
theorem from_1 {s w : Nat} (h0 : 0 < s) (a : Int) : (1 + a % (s : Int) * (w : Int)).toNat = 1 + (a % (s : Int)).toNat * w := by
  have h1 := Int.emod_nonneg a (show (s : Int) ≠ 0 by omega)
  obtain ⟨j, hj⟩ : ∃ j : Nat, a % (s : Int) = j := ⟨(a % (s : Int)).toNat, by omega⟩
  rw [hj, Int.toNat_natCast, show (1 + (j : Int) * (w : Int)) = ((1 + j * w : Nat) : Int) by rw [Int.natCast_add, Int.natCast_mul]; rfl, Int.toNat_natCast]
theorem from_2 {s w : Nat} (h0 : 0 < s) (a : Int) : (2 + a % (s : Int) * (w : Int)).toNat = 2 + (a % (s : Int)).toNat * w := by
  have h1 := Int.emod_nonneg a (show (s : Int) ≠ 0 by omega)
  obtain ⟨j, hj⟩ : ∃ j : Nat, a % (s : Int) = j := ⟨(a % (s : Int)).toNat, by omega⟩
  rw [hj, Int.toNat_natCast, show (2 + (j : Int) * (w : Int)) = ((2 + j * w : Nat) : Int) by rw [Int.natCast_add, Int.natCast_mul]; rfl, Int.toNat_natCast]
theorem slot_rot {s : Nat} (h0 : 0 < s) {M : Int} (hM : (s : Int) ∣ M) (a D : Int) : ((a + D) % M % (s : Int)).toNat = rot s (D % (s : Int)).toNat (a % (s : Int)).toNat := by
  rw [Int.emod_emod_of_dvd _ hM, rot_mod h0]
set_option maxHeartbeats 1000000 in
theorem simk_ring (s w : Nat) (D : Int) : SimK ring.K (ringRc s w D) (RotW 1 s w ((s : Int) * 1048576) D (D % (s : Int)).toNat) where
  step := by
    rintro ⟨xk, xw, xs, xc, xst, xia, xil, xic, xwr, xra, xrl, xrc, xop, xrd, xph, xi, xtr, xa, xb, xus, xm, xba, xsz, xcode, xsteps, xov⟩ x' mv mv' r ws ws' ⟨st, m, a, rfl, hxs, hxw, ha⟩ R hs - hov hb - hsz hws -
    simp only at hxs hxw ha hov hb hsz
    subst hxs hxw hb
    have hs2 := ring.Shape.s hs
    have hi := ring.Shape.i hs hov
    simp only at hs2 hi
    have hs0 : 0 < s := by omega
    have hd : (D % (s : Int)).toNat < s := by
      have h3 := Int.emod_nonneg D (show (s : Int) ≠ 0 by omega)
      have h4 := Int.emod_lt_of_pos D (show (0 : Int) < s by omega)
      omega
    have hM : 0 < (s : Int) * 1048576 := by omega
    have hM0 : (s : Int) * 1048576 ≠ 0 := by omega
    obtain ⟨v0, v1, v2⟩ := R.head 0 (by omega)
    have hil : xi.toNat < w := by omega
    have hj : (xa % (s : Int)).toNat < s := by
      have h3 := Int.emod_nonneg xa (show (s : Int) ≠ 0 by omega)
      have h4 := Int.emod_lt_of_pos xa (show (0 : Int) < s by omega)
      omega
    show ringRc s w D (ring.step _ _ _ _).1 (ring.step _ _ _ _).1 ∧ (ring.step _ _ _ _).2.1 = (ring.step _ _ _ _).2.1 ∧ RotW 1 s w ((s : Int) * 1048576) D (D % (s : Int)).toNat (ring.step _ _ _ _).2.2 (ring.step _ _ _ _).2.2
    have hz : Int.toNat 0 = 0 := rfl
    have hvm : ws.getD 0 0 % ((s : Int) * 1048576) = ws.getD 0 0 := Int.emod_eq_of_lt v0 v1
    have hvm' : (ws.getD 0 0 + D) % ((s : Int) * 1048576) % ((s : Int) * 1048576) = (ws.getD 0 0 + D) % ((s : Int) * 1048576) := Int.emod_emod_of_dvd _ ⟨1, by omega⟩
    have hf1 := from_1 (w := w) hs0 xa
    by_cases hop : xop = 2
    · simp only [ring.step, if_pos hop, ring.stepW, ring.fromN, hz, Nat.zero_add, hf1, v2, hvm, hvm']
      by_cases p0 : xph = 0
      · simp only [if_pos p0]
        refine ⟨⟨st, mv', _, rfl, rfl, rfl, fun _ => ⟨⟨Int.emod_nonneg _ hM0, Int.emod_lt_of_pos _ hM⟩, ?_⟩⟩, (by first | trivial | rfl), R⟩
        rw [addm, addm]
        congr 1
        omega
      by_cases p1 : xph = 1
      · obtain ⟨e1, e⟩ := ha p0
        have hf2 : (1 + a % (s : Int) * (w : Int)).toNat = 1 + rot s (D % (s : Int)).toNat (xa % (s : Int)).toNat * w := by rw [from_1 hs0, e, slot_rot hs0 ⟨1048576, rfl⟩]
        simp only [if_neg p0, if_pos p1, hf2]
        refine ⟨?_, (by first | trivial | rfl), ?_⟩
        · split
          · exact ⟨st, mv', a, rfl, rfl, rfl, fun _ => ⟨e1, e⟩⟩
          · exact ⟨st, mv', a, rfl, rfl, rfl, fun _ => ⟨e1, e⟩⟩
        · rw [Nat.add_assoc, Nat.add_assoc]
          exact R.setSlot hd hj hil _
      · obtain ⟨e1, e⟩ := ha p0
        simp only [if_neg p0, if_neg p1]
        exact ⟨⟨st, mv', a, rfl, rfl, rfl, fun _ => ⟨e1, e⟩⟩, (by first | trivial | rfl), R.setHead (by omega) e1 e⟩
    · simp only [ring.step, if_neg hop, ring.stepR, ring.fromN, hz, Nat.zero_add, hf1, v2, hvm, hvm']
      by_cases p0 : xph = 0
      · simp only [if_pos p0]
        exact ⟨⟨st, mv', _, rfl, rfl, rfl, fun _ => ⟨⟨v0, v1⟩, rfl⟩⟩, (by first | trivial | rfl), R⟩
      by_cases p1 : xph = 1
      · obtain ⟨e1, e⟩ := ha p0
        have hf2 : (1 + a % (s : Int) * (w : Int)).toNat = 1 + rot s (D % (s : Int)).toNat (xa % (s : Int)).toNat * w := by rw [from_1 hs0, e, slot_rot hs0 ⟨1048576, rfl⟩]
        simp only [if_neg p0, if_pos p1, hf2]
        refine ⟨?_, ?_, R⟩
        · split
          · exact ⟨st, mv', a, rfl, rfl, rfl, fun _ => ⟨e1, e⟩⟩
          · exact ⟨st, mv', a, rfl, rfl, rfl, fun _ => ⟨e1, e⟩⟩
        · rw [Nat.add_assoc, Nat.add_assoc, R.slot _ _ hj hil]
      · obtain ⟨e1, e⟩ := ha p0
        simp only [if_neg p0, if_neg p1]
        rw [e, gap_shift _ _ _ _ hM0]
        by_cases hq : word.gapU xa (ws.getD 0 0) ((s : Int) * 1048576) < (s : Int) - 1
        · simp only [if_pos hq]
          exact ⟨⟨st, mv', _, rfl, rfl, rfl, fun _ => ⟨e1, rfl⟩⟩, (by first | trivial | rfl), R⟩
        · simp only [if_neg hq]
          refine ⟨?_, (by first | trivial | rfl), R⟩
          unfold ring.failC
          split
          · exact ⟨st, mv', _, rfl, rfl, rfl, fun h => absurd rfl h⟩
          · exact ⟨st, mv', _, rfl, rfl, rfl, fun h => absurd rfl h⟩
  over := by
    rintro x x' ⟨st, m, a, rfl, -⟩
    exact ⟨rfl, rfl⟩
end Go.Proofs.YtphfnjcboellhaaGreatDoor.wv

/- The weave: fifo's counters moved; plain Lean. -/
namespace Go.Proofs.YtphfnjcboellhaaGreatDoor.wv
open Go Go.RowKit kit obj mem core
set_option linter.unusedVariables false
set_option linter.unusedSimpArgs false
def fifoRc (s w : Nat) (D : Int) (x x' : Core) : Prop := ∃ st m a, x' = { x with st := st, m := m, a := a } ∧ x.s = (s : Int) ∧ x.w = (w : Int) ∧ (x.phase ≠ 0 → (0 ≤ x.a ∧ x.a < 2 * (s : Int)) ∧ a = (x.a + D) % (2 * (s : Int)))
theorem emod_inj {x y D m : Int} (hx : 0 ≤ x ∧ x < m) (hy : 0 ≤ y ∧ y < m) (h : (x + D) % m = (y + D) % m) : x = y := by
  have e : ((x + D) % m - D) % m = ((y + D) % m - D) % m := by rw [h]
  rw [show (x + D) % m - D = (x + D) % m + (-D) by omega, addm, show (y + D) % m - D = (y + D) % m + (-D) by omega, addm, show x + D + -D = x by omega, show y + D + -D = y by omega, Int.emod_eq_of_lt hx.1 hx.2, Int.emod_eq_of_lt hy.1 hy.2] at e
  exact e
set_option maxHeartbeats 1000000 in
theorem simk_fifo (s w : Nat) (D : Int) : SimK fifo.K (fifoRc s w D) (RotW 2 s w (2 * (s : Int)) D (D % (s : Int)).toNat) where
  step := by
    rintro ⟨xk, xw, xs, xc, xst, xia, xil, xic, xwr, xra, xrl, xrc, xop, xrd, xph, xi, xtr, xa, xb, xus, xm, xba, xsz, xcode, xsteps, xov⟩ x' mv mv' r ws ws' ⟨st, m, a, rfl, hxs, hxw, ha⟩ R hs - hov hb - hsz hws -
    simp only at hxs hxw ha hov hb hsz
    subst hxs hxw hb
    have hs2 := fifo.Shape.s hs
    have hi := fifo.Shape.i hs hov
    simp only at hs2 hi
    have hs0 : 0 < s := by omega
    have hd : (D % (s : Int)).toNat < s := by
      have h3 := Int.emod_nonneg D (show (s : Int) ≠ 0 by omega)
      have h4 := Int.emod_lt_of_pos D (show (0 : Int) < s by omega)
      omega
    have hM : 0 < 2 * (s : Int) := by omega
    have hM0 : 2 * (s : Int) ≠ 0 := by omega
    have hdv : (s : Int) ∣ 2 * (s : Int) := ⟨2, by omega⟩
    obtain ⟨v0, v1, v2⟩ := R.head 0 (by omega)
    obtain ⟨u0, u1, u2⟩ := R.head 1 (by omega)
    have hil : xi.toNat < w := by omega
    have hj : (xa % (s : Int)).toNat < s := by
      have h3 := Int.emod_nonneg xa (show (s : Int) ≠ 0 by omega)
      have h4 := Int.emod_lt_of_pos xa (show (0 : Int) < s by omega)
      omega
    show fifoRc s w D (fifo.step _ _ _ _).1 (fifo.step _ _ _ _).1 ∧ (fifo.step _ _ _ _).2.1 = (fifo.step _ _ _ _).2.1 ∧ RotW 2 s w (2 * (s : Int)) D (D % (s : Int)).toNat (fifo.step _ _ _ _).2.2 (fifo.step _ _ _ _).2.2
    have hz : Int.toNat 0 = 0 := rfl
    have hvm : ws.getD 0 0 % (2 * (s : Int)) = ws.getD 0 0 := Int.emod_eq_of_lt v0 v1
    have hum : ws.getD 1 0 % (2 * (s : Int)) = ws.getD 1 0 := Int.emod_eq_of_lt u0 u1
    have hvm' : (ws.getD 0 0 + D) % (2 * (s : Int)) % (2 * (s : Int)) = (ws.getD 0 0 + D) % (2 * (s : Int)) := Int.emod_emod_of_dvd _ ⟨1, by omega⟩
    have hum' : (ws.getD 1 0 + D) % (2 * (s : Int)) % (2 * (s : Int)) = (ws.getD 1 0 + D) % (2 * (s : Int)) := Int.emod_emod_of_dvd _ ⟨1, by omega⟩
    have hf1 := from_2 (w := w) hs0 xa
    have hstep : (xa + 1) % (2 * (s : Int)) = (xa + 1) % (2 * (s : Int)) := rfl
    by_cases hop : xop = 3
    · simp only [fifo.step, if_pos hop, fifo.stepW, fifo.fromN, hz, Nat.zero_add, hf1, v2, u2, hvm, hvm', hum, hum']
      by_cases p0 : xph = 0
      · simp only [if_pos p0]
        exact ⟨⟨st, mv', _, rfl, rfl, rfl, fun _ => ⟨⟨u0, u1⟩, rfl⟩⟩, (by first | trivial | rfl), R⟩
      by_cases p1 : xph = 1
      · obtain ⟨e1, e⟩ := ha p0
        simp only [if_neg p0, if_pos p1]
        rw [e, gap_shift _ _ _ _ hM0]
        by_cases hq : (s : Int) ≤ word.gapU (ws.getD 0 0) xa (2 * (s : Int))
        · simp only [if_pos hq]
          exact ⟨⟨st, mv', _, rfl, rfl, rfl, fun _ => ⟨e1, rfl⟩⟩, (by first | trivial | rfl), R⟩
        · simp only [if_neg hq]
          exact ⟨⟨st, mv', _, rfl, rfl, rfl, fun _ => ⟨e1, rfl⟩⟩, (by first | trivial | rfl), R⟩
      by_cases p2 : xph = 2
      · obtain ⟨e1, e⟩ := ha p0
        have hf2 : (2 + a % (s : Int) * (w : Int)).toNat = 2 + rot s (D % (s : Int)).toNat (xa % (s : Int)).toNat * w := by rw [from_2 hs0, e, slot_rot hs0 hdv]
        simp only [if_neg p0, if_neg p1, if_pos p2, hf2]
        refine ⟨?_, (by first | trivial | rfl), ?_⟩
        · split
          · exact ⟨st, mv', a, rfl, rfl, rfl, fun _ => ⟨e1, e⟩⟩
          · exact ⟨st, mv', a, rfl, rfl, rfl, fun _ => ⟨e1, e⟩⟩
        · rw [Nat.add_assoc, Nat.add_assoc]
          exact R.setSlot hd hj hil _
      · obtain ⟨e1, e⟩ := ha p0
        simp only [if_neg p0, if_neg p1, if_neg p2]
        refine ⟨⟨st, mv', a, rfl, rfl, rfl, fun _ => ⟨e1, e⟩⟩, (by first | trivial | rfl), R.setHead (by omega) ⟨Int.emod_nonneg _ hM0, Int.emod_lt_of_pos _ hM⟩ ?_⟩
        rw [e, addm, addm]
        congr 1
        omega
    · simp only [fifo.step, if_neg hop, fifo.stepR, fifo.fromN, hz, Nat.zero_add, hf1, v2, u2, hvm, hvm', hum, hum']
      by_cases p0 : xph = 0
      · simp only [if_pos p0]
        exact ⟨⟨st, mv', _, rfl, rfl, rfl, fun _ => ⟨⟨v0, v1⟩, rfl⟩⟩, (by first | trivial | rfl), R⟩
      by_cases p1 : xph = 1
      · obtain ⟨e1, e⟩ := ha p0
        simp only [if_neg p0, if_pos p1]
        rw [e]
        by_cases hq : ws.getD 1 0 = xa
        · simp only [if_pos hq, if_pos (show (ws.getD 1 0 + D) % (2 * (s : Int)) = (xa + D) % (2 * (s : Int)) by rw [hq])]
          exact ⟨⟨st, mv', _, rfl, rfl, rfl, fun _ => ⟨e1, rfl⟩⟩, (by first | trivial | rfl), R⟩
        · simp only [if_neg hq, if_neg (show ¬ (ws.getD 1 0 + D) % (2 * (s : Int)) = (xa + D) % (2 * (s : Int)) from fun h => hq (emod_inj ⟨u0, u1⟩ e1 h))]
          exact ⟨⟨st, mv', _, rfl, rfl, rfl, fun _ => ⟨e1, rfl⟩⟩, (by first | trivial | rfl), R⟩
      by_cases p2 : xph = 2
      · obtain ⟨e1, e⟩ := ha p0
        have hf2 : (2 + a % (s : Int) * (w : Int)).toNat = 2 + rot s (D % (s : Int)).toNat (xa % (s : Int)).toNat * w := by rw [from_2 hs0, e, slot_rot hs0 hdv]
        simp only [if_neg p0, if_neg p1, if_pos p2, hf2]
        refine ⟨?_, ?_, R⟩
        · split
          · exact ⟨st, mv', a, rfl, rfl, rfl, fun _ => ⟨e1, e⟩⟩
          · exact ⟨st, mv', a, rfl, rfl, rfl, fun _ => ⟨e1, e⟩⟩
        · rw [Nat.add_assoc, Nat.add_assoc, R.slot _ _ hj hil]
      · obtain ⟨e1, e⟩ := ha p0
        simp only [if_neg p0, if_neg p1, if_neg p2]
        refine ⟨⟨st, mv', a, rfl, rfl, rfl, fun _ => ⟨e1, e⟩⟩, (by first | trivial | rfl), R.setHead (by omega) ⟨Int.emod_nonneg _ hM0, Int.emod_lt_of_pos _ hM⟩ ?_⟩
        rw [e, addm, addm]
        congr 1
        omega
  over := by
    rintro x x' ⟨st, m, a, rfl, -⟩
    exact ⟨rfl, rfl⟩
end Go.Proofs.YtphfnjcboellhaaGreatDoor.wv

/- The weave: the first words of a moved object; plain Lean. -/
namespace Go.Proofs.YtphfnjcboellhaaGreatDoor.wv
open Go Go.RowKit kit obj mem core
set_option linter.unusedVariables false
set_option linter.unusedSimpArgs false
theorem fill_getD (ws l : List Int) (i n : Nat) (h : i + l.length ≤ ws.length) : (mem.fillL ws i l).getD n 0 = if n < i then ws.getD n 0 else if n < i + l.length then l.getD (n - i) 0 else ws.getD n 0 := by
  unfold mem.fillL
  have ht : (ws.take i).length = i := by rw [List.length_take]; omega
  rw [List.getD_eq_getElem?_getD, List.getElem?_append, ht]
  by_cases h1 : n < i
  · rw [if_pos h1, if_pos h1, List.getElem?_take, if_pos h1, List.getD_eq_getElem?_getD]
  · rw [if_neg h1, if_neg h1, List.getElem?_append]
    by_cases h2 : n < i + l.length
    · rw [if_pos (by omega), if_pos h2, List.getD_eq_getElem?_getD]
    · rw [if_neg (by omega), if_neg h2, List.getElem?_drop, List.getD_eq_getElem?_getD]
      congr 2
      omega
theorem rep_getD (N n : Nat) : (List.replicate N (0 : Int)).getD n 0 = 0 := by
  rw [List.getD_eq_getElem?_getD, List.getElem?_replicate]
  split <;> rfl
theorem ring_start (s w : Nat) {st st' : Int} {ini : List Int} (hw : ini.length = w) (hs : 0 < s) (h : 0 ≤ st ∧ st < (s : Int) * 1048576) (h' : 0 ≤ st' ∧ st' < (s : Int) * 1048576) : RotW 1 s w ((s : Int) * 1048576) (st' - st) ((st' - st) % (s : Int)).toNat (ring.layL s w st ini) (ring.layL s w st' ini) := by
  have key : ∀ st : Int, 0 ≤ st → (ring.layL s w st ini).length = 1 + s * w ∧ ∀ n, (ring.layL s w st ini).getD n 0 = if n < 1 + (st % (s : Int)).toNat * w then (if n = 0 then st else 0) else if n < 1 + (st % (s : Int)).toNat * w + w then ini.getD (n - (1 + (st % (s : Int)).toNat * w)) 0 else 0 := fun st h0 => by
    have h3 := Int.emod_nonneg st (show (s : Int) ≠ 0 by omega)
    have h4 := Int.emod_lt_of_pos st (show (0 : Int) < s by omega)
    have hj : (st % (s : Int)).toNat < s := by omega
    have hb := Nat.mul_le_mul_right w (show (st % (s : Int)).toNat + 1 ≤ s from hj)
    rw [Nat.add_mul, Nat.one_mul] at hb
    have e1 : (1 + (s : Int) * (w : Int)).toNat = 1 + s * w := by
      rw [show (1 + (s : Int) * (w : Int)) = ((1 + s * w : Nat) : Int) by rw [Int.natCast_add, Int.natCast_mul]; rfl, Int.toNat_natCast]
    have hlen : 1 + (st % (s : Int)).toNat * w + ini.length ≤ ((List.replicate (1 + s * w) (0 : Int)).set 0 st).length := by rw [List.length_set, List.length_replicate]; omega
    unfold ring.layL
    rw [from_1 hs, e1]
    refine ⟨by rw [mem.fillL_length _ _ _ hlen, List.length_set, List.length_replicate], fun n => ?_⟩
    rw [fill_getD _ _ _ _ hlen, getD_set, rep_getD, List.length_replicate, hw]
    by_cases h1 : n < 1 + (st % (s : Int)).toNat * w
    · rw [if_pos h1, if_pos h1]
      by_cases h2 : n = 0
      · rw [if_pos ⟨h2.symm, by omega⟩, if_pos h2]
      · rw [if_neg (fun h => h2 h.1.symm), if_neg h2]
    · rw [if_neg h1, if_neg h1]
      by_cases h2 : n < 1 + (st % (s : Int)).toNat * w + w
      · rw [if_pos h2, if_pos h2]
      · rw [if_neg h2, if_neg h2, if_neg (fun h => by omega)]
  obtain ⟨k1, k2⟩ := key st h.1
  obtain ⟨k3, k4⟩ := key st' h'.1
  have hd : ((st' - st) % (s : Int)).toNat < s := by
    have h3 := Int.emod_nonneg (st' - st) (show (s : Int) ≠ 0 by omega)
    have h4 := Int.emod_lt_of_pos (st' - st) (show (0 : Int) < s by omega)
    omega
  have hj : (st % (s : Int)).toNat < s := by
    have h3 := Int.emod_nonneg st (show (s : Int) ≠ 0 by omega)
    have h4 := Int.emod_lt_of_pos st (show (0 : Int) < s by omega)
    omega
  have hr : (st' % (s : Int)).toNat = rot s ((st' - st) % (s : Int)).toNat (st % (s : Int)).toNat := by
    rw [← rot_mod hs]; congr 2; omega
  refine ⟨k1, k3, fun c hc => ?_, fun j i hj2 hi => ?_⟩
  · obtain rfl : c = 0 := by omega
    rw [k2, k4, if_pos (by omega), if_pos rfl, if_pos (by omega), if_pos rfl]
    exact ⟨h.1, h.2, by rw [show st + (st' - st) = st' by omega, Int.emod_eq_of_lt h'.1 h'.2]⟩
  · rw [k2, k4, hr]
    generalize (st % (s : Int)).toNat = q at *
    generalize ((st' - st) % (s : Int)).toNat = d at *
    have hrl := rot_lt hd hj2
    by_cases hq : j = q
    · subst hq
      rw [if_neg (by omega), if_pos (by omega), if_neg (by omega), if_pos (by omega)]
      congr 1
      omega
    · have hq2 : rot s d j ≠ rot s d q := fun e => hq (rot_inj hd hj2 hj e)
      have hz : ∀ a b : Nat, a ≠ b → (if 1 + (a * w + i) < 1 + b * w then (if 1 + (a * w + i) = 0 then (0 : Int) else 0) else if 1 + (a * w + i) < 1 + b * w + w then ini.getD (1 + (a * w + i) - (1 + b * w)) 0 else 0) = 0 := fun a b hab => by
        by_cases h1 : 1 + (a * w + i) < 1 + b * w
        · rw [if_pos h1, if_neg (by omega)]
        · rw [if_neg h1, if_neg (fun h2 => hab ?_)]
          rcases Nat.lt_or_ge a b with h3 | h3
          · have := Nat.mul_le_mul_right w (show a + 1 ≤ b from h3)
            rw [Nat.add_mul, Nat.one_mul] at this
            omega
          · rcases Nat.lt_or_ge b a with h4 | h4
            · have := Nat.mul_le_mul_right w (show b + 1 ≤ a from h4)
              rw [Nat.add_mul, Nat.one_mul] at this
              omega
            · omega
      have e1 := hz (rot s d j) (rot s d q) hq2
      have e2 := hz j q hq
      rw [show (if 1 + (rot s d j * w + i) = 0 then st' else 0) = (if 1 + (rot s d j * w + i) = 0 then (0 : Int) else 0) by rw [if_neg (by omega), if_neg (by omega)], show (if 1 + (j * w + i) = 0 then st else 0) = (if 1 + (j * w + i) = 0 then (0 : Int) else 0) by rw [if_neg (by omega), if_neg (by omega)], e1, e2]
theorem fifo_start (s w : Nat) {st st' : Int} (hs : 0 < s) (h : 0 ≤ st ∧ st < 2 * (s : Int)) (h' : 0 ≤ st' ∧ st' < 2 * (s : Int)) : RotW 2 s w (2 * (s : Int)) (st' - st) ((st' - st) % (s : Int)).toNat (fifo.layL s w st) (fifo.layL s w st') := by
  have e1 : (2 + (s : Int) * (w : Int)).toNat = 2 + s * w := by
    rw [show (2 + (s : Int) * (w : Int)) = ((2 + s * w : Nat) : Int) by rw [Int.natCast_add, Int.natCast_mul]; rfl, Int.toNat_natCast]
  have key : ∀ st : Int, ∀ n, (fifo.layL s w st).getD n 0 = if n < 2 then st else 0 := fun st n => by
    unfold fifo.layL
    rw [e1, getD_set, getD_set, rep_getD, List.length_set, List.length_replicate]
    by_cases h1 : n = 1
    · rw [if_pos ⟨h1.symm, by omega⟩, if_pos (by omega)]
    · rw [if_neg (fun h => h1 h.1.symm)]
      by_cases h2 : n = 0
      · rw [if_pos ⟨h2.symm, by omega⟩, if_pos (by omega)]
      · rw [if_neg (fun h => h2 h.1.symm), if_neg (by omega)]
  have hl : ∀ st : Int, (fifo.layL s w st).length = 2 + s * w := fun st => by
    unfold fifo.layL
    rw [List.length_set, List.length_set, List.length_replicate, e1]
  refine ⟨hl st, hl st', fun c hc => ?_, fun j i hj hi => ?_⟩
  · rw [key, key, if_pos hc, if_pos hc]
    exact ⟨h.1, h.2, by rw [show st + (st' - st) = st' by omega, Int.emod_eq_of_lt h'.1 h'.2]⟩
  · rw [key, key, if_neg (by omega), if_neg (by omega)]
end Go.Proofs.YtphfnjcboellhaaGreatDoor.wv

/- The weave: a moved object's calls are the same; plain Lean, joined by kind. -/
namespace Go.Proofs.YtphfnjcboellhaaGreatDoor.wv
open Go Go.RowKit kit obj mem core
set_option linter.unusedVariables false
set_option linter.unusedSimpArgs false
theorem mvS_right {k w s c st x : Int} {il rl : Nat} (hO : ObjW k w s c st il rl) (hB : rightB k w s c st il rl = true) (hx : 0 ≤ x ∧ x ≤ 4294967295) : ObjW k w s c (mvS k s st x) il rl ∧ rightB k w s c (mvS k s st x) il rl = true := by
  have hbd := rightB_bd hB
  have key : 0 ≤ mvS k s st x ∧ mvS k s st x ≤ 4294967295 ∧ rightB k w s c (mvS k s st x) il rl = true := by
    have hst := hO.st32
    have hk : k = 1 ∨ k = 2 ∨ k = 3 ∨ k = 4 ∨ k = 5 ∨ k = 6 := by omega
    rcases hk with rfl | rfl | rfl | rfl | rfl | rfl
    · simp only [mvS]; exact ⟨hst.1, hst.2, hB⟩
    · simp only [mvS]; exact ⟨hst.1, hst.2, hB⟩
    · simp [mvS]
      simp [rightB] at hB ⊢
      omega
    · have h0 : 0 < s := by simp [rightB] at hB; omega
      have h1 := Int.emod_nonneg x (show s * 1048576 ≠ 0 by omega)
      have h2 := Int.emod_lt_of_pos x (show 0 < s * 1048576 by omega)
      simp [mvS]
      simp [rightB] at hB ⊢
      omega
    · simp only [mvS]; exact ⟨hst.1, hst.2, hB⟩
    · have h0 : 0 < s := by simp [rightB] at hB; omega
      have h1 := Int.emod_nonneg x (show 2 * s ≠ 0 by omega)
      have h2 := Int.emod_lt_of_pos x (show 0 < 2 * s by omega)
      simp [mvS]
      simp [rightB] at hB ⊢
      omega
  exact ⟨⟨hO.k64, hO.w64, hO.s64, hO.c64, ⟨key.1, key.2.1⟩, hO.ilen, hO.rlen⟩, key.2.2⟩
/-- an object whose counters start elsewhere -/
def ObV.at_ (o : ObV) (st : Int) : ObV := { o with st := st }
/-- what is needed of an object and of one moved -/
structure Two (kk : Nat) (T : TypeId) (w0 r0 : Int) (K : Kind) (o o' : ObV) (ini ws ws' : List Int) : Prop where
  kind : KindOK kk T w0 r0 K
  w : wOp o.k = w0
  r : rOp o.k = r0
  right : RightO kk o
  right' : RightO kk o'
  lay : LayO o.k o.w o.s o.c o.st o.ia o.il o.ic o.wr o.ra o.rl o.rc ini ws
  lay' : LayO o'.k o'.w o'.s o'.c o'.st o'.ia o'.il o'.ic o'.wr o'.ra o'.rl o'.rc ini ws'
  same : ∀ (ps : List Pr) (ts : List Int) (mv mv' : Value), Good kk w0 r0 K o mv (lo0 ws ps) ts → Good kk w0 r0 K o' mv' (lo0 ws' ps) ts → (turnsM K mv' (frO o') (lo0 ws' ps) ts).cs = (turnsM K mv (frO o) (lo0 ws ps) ts).cs
theorem frO_size {kk : Nat} {o o' : ObV} (h : RightO kk o) (h' : RightO kk o') (he : o' = { o with st := o'.st }) : rop.sizeI o'.k o'.w o'.s o'.c o'.st o'.il o'.rl = rop.sizeI o.k o.w o.s o.c o.st o.il o.rl := by
  rw [size_of h, size_of h', he]
theorem frO_at {kk : Nat} {o : ObV} {st : Int} (h : RightO kk o) (h' : RightO kk (o.at_ st)) (op rd : Int) : frO (o.at_ st) op rd = { frO o op rd with st := st, m := (frO (o.at_ st) op rd).m, a := 0 } := by
  have e := frO_size h h' rfl
  simp only [ObV.at_] at e
  simp only [frO, freshC, ObV.at_, e]
theorem two_same {kk : Nat} {T : TypeId} {w0 r0 : Int} {K : Kind} (D : KindOK kk T w0 r0 K) (hK : K.Free) {o : ObV} (hw : wOp o.k = w0) (hr : rOp o.k = r0) (h : RightO kk o) {ini ws : List Int} (hl : LayO o.k o.w o.s o.c o.st o.ia o.il o.ic o.wr o.ra o.rl o.rc ini ws) : Two kk T w0 r0 K o o ini ws ws :=
  ⟨D, hw, hr, h, h, hl, hl, fun ps ts mv mv' g g' => (runs_sim (simk_free hK) (fun op rd => ⟨_, rfl⟩) (LoR.start rfl) g g').cs⟩
theorem two_any (o : ObV) (hO : ObjW o.k o.w o.s o.c o.st o.il o.rl) (hB : rightB o.k o.w o.s o.c o.st o.il o.rl = true) {W : World} {ini : List Int} (hi : ReadsW W (.slice o.ia o.il o.ic) ini) {x : Int} (hx : 0 ≤ x ∧ x ≤ 4294967295) :
    ∃ (kk : Nat) (T : TypeId) (w0 r0 : Int) (K : Kind) (ws ws' : List Int), Two kk T w0 r0 K o (o.at_ (mvS o.k o.s o.st x)) ini ws ws' := by
  have hbd := rightB_bd hB
  obtain ⟨hO', hB'⟩ := mvS_right hO hB hx
  have hil : ini.length = o.il := by obtain ⟨_, _, he, _⟩ := reads_slice hi.1; simp at he; exact he.2.1.symm
  have hk : o.k = 1 ∨ o.k = 2 ∨ o.k = 3 ∨ o.k = 4 ∨ o.k = 5 ∨ o.k = 6 := by omega
  have hself : (o.k ≠ 3 ∧ o.k ≠ 4 ∧ o.k ≠ 6) → o.at_ (mvS o.k o.s o.st x) = o := fun h => by
    unfold mvS ObV.at_
    rw [if_neg h.1, if_neg h.2.1, if_neg h.2.2]
  rcases hk with h | h | h | h | h | h
  · rw [hself (by omega)]
    have hr : RightO 1 o := ⟨h, hO, by rw [← hB, h]⟩
    exact ⟨1, _, 2, 1, _, _, _, two_same kok_four four.free (by rw [h]; rfl) (by rw [h]; rfl) hr (layO_four _ _ _ _ _ _ _ _ _ _ _ _ ini hO h hB W hi)⟩
  · rw [hself (by omega)]
    have hr : RightO 2 o := ⟨h, hO, by rw [← hB, h]⟩
    exact ⟨2, _, 2, 1, _, _, _, two_same kok_chen chen.free (by rw [h]; rfl) (by rw [h]; rfl) hr (layO_chen _ _ _ _ _ _ _ _ _ _ _ _ ini hO h hB W hi)⟩
  · have hr : RightO 3 o := ⟨h, hO, by rw [← hB, h]⟩
    have hr' : RightO 3 (o.at_ (mvS o.k o.s o.st x)) := ⟨h, hO', by rw [← hB', h]; rfl⟩
    refine ⟨3, _, 2, 1, _, seq.layL o.st ini, seq.layL (mvS o.k o.s o.st x) ini, kok_seq, by rw [h]; rfl, by rw [h]; rfl, hr, hr', layO_seq _ _ _ _ _ _ _ _ _ _ _ _ ini hO h hB W hi, layO_seq _ _ _ _ _ _ _ _ _ _ _ _ ini hO' h hB' W hi, fun ps ts mv mv' g g' => ?_⟩
    have hD : (mvS o.k o.s o.st x - o.st) % 2 = 0 := by
      simp only [rightB, decide_eq_true_eq] at hB hB'
      omega
    refine (runs_sim (simk_seq hD) (fun op rd => ?_) (LoR.start (seqRw_start hO'.st32 ini)) g g').cs
    exact ⟨_, _, 0, frO_at hr hr' op rd, fun hp => absurd rfl hp⟩
  · have hr : RightO 4 o := ⟨h, hO, by rw [← hB, h]⟩
    have hr' : RightO 4 (o.at_ (mvS o.k o.s o.st x)) := ⟨h, hO', by rw [← hB', h]; rfl⟩
    have hst := hO.st32
    have hst' := hO'.st32
    have hl := layO_ring o.k o.w o.s o.c o.st o.ia o.il o.ic o.wr o.ra o.rl o.rc ini hO h hB W hi
    have hl' := layO_ring o.k o.w o.s o.c (mvS o.k o.s o.st x) o.ia o.il o.ic o.wr o.ra o.rl o.rc ini hO' h hB' W hi
    simp only [rightB, decide_eq_true_eq] at hB hB'
    obtain ⟨s, hs⟩ : ∃ s : Nat, o.s = s := ⟨o.s.toNat, by omega⟩
    obtain ⟨w, hw⟩ : ∃ w : Nat, o.w = w := ⟨o.w.toNat, by omega⟩
    refine ⟨4, _, 2, 1, _, _, _, kok_ring, by rw [h]; rfl, by rw [h]; rfl, hr, hr', hl, hl', fun ps ts mv mv' g g' => ?_⟩
    refine (runs_sim (simk_ring s w (mvS o.k o.s o.st x - o.st)) (fun op rd => ?_) (LoR.start ?_) g g').cs
    · exact ⟨_, _, 0, frO_at hr hr' op rd, hs, hw, fun hp => absurd rfl hp⟩
    · rw [hs, hw]
      exact ring_start s w (by omega) (by omega) (by omega) (by rw [← hs]; omega)
  · rw [hself (by omega)]
    have hr : RightO 5 o := ⟨h, hO, by rw [← hB, h]⟩
    exact ⟨5, _, 2, 1, _, _, _, two_same kok_cab cab.free (by rw [h]; rfl) (by rw [h]; rfl) hr (layO_cab _ _ _ _ _ _ _ _ _ _ _ _ ini hO h hB W hi)⟩
  · have hr : RightO 6 o := ⟨h, hO, by rw [← hB, h]⟩
    have hr' : RightO 6 (o.at_ (mvS o.k o.s o.st x)) := ⟨h, hO', by rw [← hB', h]; rfl⟩
    have hst := hO.st32
    have hst' := hO'.st32
    have hl := layO_fifo o.k o.w o.s o.c o.st o.ia o.il o.ic o.wr o.ra o.rl o.rc ini hO h hB W hi
    have hl' := layO_fifo o.k o.w o.s o.c (mvS o.k o.s o.st x) o.ia o.il o.ic o.wr o.ra o.rl o.rc ini hO' h hB' W hi
    simp only [rightB, decide_eq_true_eq] at hB hB'
    obtain ⟨s, hs⟩ : ∃ s : Nat, o.s = s := ⟨o.s.toNat, by omega⟩
    obtain ⟨w, hw⟩ : ∃ w : Nat, o.w = w := ⟨o.w.toNat, by omega⟩
    refine ⟨6, _, 3, 4, _, _, _, kok_fifo, by rw [h]; rfl, by rw [h]; rfl, hr, hr', hl, hl', fun ps ts mv mv' g g' => ?_⟩
    refine (runs_sim (simk_fifo s w (mvS o.k o.s o.st x - o.st)) (fun op rd => ?_) (LoR.start ?_) g g').cs
    · exact ⟨_, _, 0, frO_at hr hr' op rd, hs, hw, fun hp => absurd rfl hp⟩
    · rw [hs, hw]
      exact fifo_start s w (by omega) (by omega) (by rw [← hs]; omega)
end Go.Proofs.YtphfnjcboellhaaGreatDoor.wv
