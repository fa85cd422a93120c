/- TopFits: what the program and the reference compute, in plain words, and the law of it: a system that is fitted is admitted, and nobody takes longer. -/
import Derived.Test.YtkedegbpkkgeaaaGreatTop4
import Derived.Test.YtkedegbpkkgeaaaGreatBndA
import Derived.Test.YtkedegbpkkgeaaaGreatWordPlain
namespace Go.Proofs.YtkedegbpkkgeaaaGreat.tf
open Go Go.RowKit Go.Proofs.YtkedegbpkkgeaaaGreat.kit Go.Proofs.YtkedegbpkkgeaaaGreat.obj Go.Proofs.YtkedegbpkkgeaaaGreat.isa Go.Proofs.YtkedegbpkkgeaaaGreat.word
set_option linter.unusedVariables false
set_option linter.unusedSimpArgs false
set_option maxRecDepth 20000

/-- what a task is -/
structure T where
  kind : Int
  prio : Int
  period : Int
  offset : Int
  deadline : Int
  own : Int
  code : List Ins
structure O where
  k : Int
  w : Int
  s : Int
  c : Int
  st : Int
  ini : List Int
  wr : Int
  rds : List Int
structure S where
  ts : List T
  os : List O
def O.right (o : O) : Bool := rightB o.k o.w o.s o.c o.st o.ini.length o.rds.length
def O.fail (o : O) (op : Int) : Int := failI o.k o.w o.s o.c o.st o.ini.length o.rds.length op
def O.after (o : O) (op fails : Int) : Int := afterI o.k o.w o.s o.c o.st o.ini.length o.rds.length op fails
def addT (a b : Int) : Int := inside (inside a + inside b)
/-- loops of a program, by their ends -/
def loopsF : Nat → List Ins → List (Int × Int)
  | _, [] => []
  | j, i :: r => if i.op = 16 then (i.n, (j : Int)) :: loopsF (j + 1) r else loopsF (j + 1) r
def hasL (s : Int × Int) (pc : Int) : Bool := decide (s.1 ≤ pc ∧ pc ≤ s.2)
/-- a program that may be -/
structure FineP (p : List Ins) : Prop where
  len : 1 ≤ p.length ∧ p.length ≤ 64
  right : ∀ i ∈ p, rightI i = true
  lead : ∀ (j : Nat) (i : Ins), p[j]? = some i → (i.op = 16 → i.n < (j : Int)) ∧ (i.op = 14 ∨ i.op = 15 → (j : Int) < i.n ∧ i.n < p.length)
  lap : ∀ (a b : Nat) (s t : Int × Int), a < b → (loopsF 0 p)[a]? = some s → (loopsF 0 p)[b]? = some t → ¬ (s.1 < t.1 ∧ t.1 ≤ s.2)
  cross : ∀ (j : Nat) (i : Ins), p[j]? = some i → i.op = 14 ∨ i.op = 15 → ∀ s ∈ loopsF 0 p, hasL s j = hasL s i.n
  done : ∃ i, p[p.length - 1]? = some i ∧ i.op = 21
-- cost
def best (a b : Int) : Int := if a < 0 then b else if b < 0 then a else max a b
def both (a b : Int) : Int := if a < 0 ∨ b < 0 then -1 else addT a b
def often (n one : Int) : Int := if one < 0 then -1 else mulT n one
def roundsM (one on : Int × Int) (turns : Int) : Int × Int :=
  (both (often (turns + 1) one.1) on.1, best (best one.2 (both (often turns one.1) one.2)) (both (often (turns + 1) one.1) on.2))
def nextM (i : Ins) (pc : Int) : List Int :=
  if i.op = 21 then [] else if i.op = 14 then [i.n] else if leadsI i.op = false ∨ i.n = pc + 1 then [pc + 1] else [min i.n (pc + 1), max i.n (pc + 1)]
def wayAt (l : List (Int × Int)) (k : Int) : Int × Int := l.getD k.toNat (-1, -1)
def foldW (x : Int) (l : List (Int × Int)) (ns : List Int) : Int × Int := ns.foldl (fun a to => (best a.1 (both x (wayAt l to).1), best a.2 (both x (wayAt l to).2))) (-1, -1)
def stepM (i : Ins) (pc x : Int) (l : List (Int × Int)) : Int × Int :=
  if i.op = 21 then (-1, addT x 0) else if i.op = 16 then (addT x 0, -1) else foldW (addT x 0) l (nextM i pc)
def outerP (pc : Int) (part s : Int × Int) : Bool := decide (s ≠ part ∧ part.1 ≤ s.1 ∧ s.2 ≤ part.2 ∧ s.1 ≤ pc ∧ pc ≤ s.2)
def outerM (l : List (Int × Int)) (pc : Int) (part : Int × Int) : Option (Int × Int) := l.reverse.find? (outerP pc part)
def insD : Ins := ⟨0, 0, 0, 0, 0⟩
def updM (p : List Ins) (w : List Int) (sub : Int × Int → Int × Int) (part : Int × Int) (pc : Int) (l : List (Int × Int)) : List (Int × Int) :=
  match outerM (loopsF 0 p) pc part with
  | none => l.set pc.toNat (stepM (p.getD pc.toNat insD) pc (w.getD pc.toNat 0) l)
  | some s => if s.1 = pc then l.set pc.toNat (roundsM (sub s) (wayAt l (s.2 + 1)) (p.getD s.2.toNat insD).c) else l
def atM (p : List Ins) (w : List Int) (sub : Int × Int → Int × Int) (part : Int × Int) : Nat → List (Int × Int)
  | 0 => List.replicate (p.length + 1) (-1, -1)
  | k + 1 => updM p w sub part (part.2 - k) (atM p w sub part k)
def partM (p : List Ins) (w : List Int) : Nat → Int × Int → Int × Int
  | 0, _ => (-1, -1)
  | n + 1, part => wayAt (atM p w (partM p w n) part (part.2 + 1 - part.1).toNat) part.1
def mostM (p : List Ins) (w : List Int) : Int := (partM p w p.length (0, p.length - 1)).2
-- demand
def oD : O := ⟨0, 0, 0, 0, 0, [], 0, []⟩
def tD : T := ⟨0, 0, 0, 0, 0, 0, []⟩
def S.t (s : S) (i : Int) : T := s.ts.getD i.toNat tD
def S.o (s : S) (k : Int) : O := s.os.getD k.toNat oD
def callB (c : Ins) : Bool := rightI c && decide (0 < callI c.op)
def weightM (os : List O) (c : Ins) : Int := if callB c = false ∨ (os.length : Int) ≤ c.b then 1 else max 1 ((os.getD c.b.toNat oD).after (callI c.op) 0)
def cleanM (s : S) (i : Int) : Int := mostM (s.t i).code ((s.t i).code.map (weightM s.os))
def hitM (k : Int) (ops : List Int) (c : Ins) : Int := if callB c = true ∧ c.b = k ∧ c.op ∈ ops then 1 else 0
def countM (s : S) (i k : Int) (ops : List Int) : Int := mostM (s.t i).code ((s.t i).code.map (hitM k ops))
def kindB (k : Int) : Bool := decide (1 ≤ k ∧ k ≤ 6)
def roleM (s : S) (i k : Int) : Int := if kindB (s.o k).k then (if (s.o k).wr = i then writesI (s.o k).k else if i ∈ (s.o k).rds then readsI (s.o k).k else 0) else 0
-- interfere
def readsM (s : S) (i k : Int) : Bool := decide (roleM s i k = 1) && decide (0 < countM s i k [17, 20])
def inB (s : S) (a : Int) : Bool := decide (0 ≤ a ∧ a < s.ts.length)
def aheadM (s : S) (a b : Int) : Bool := inB s a && inB s b && (decide ((s.t b).prio < (s.t a).prio) || decide ((s.t a).prio = (s.t b).prio ∧ a < b))
def hopeM (s : S) (i k : Int) : Bool := readsM s i k && decide ((s.o k).k = 3) && !aheadM s (s.o k).wr i
def wrM (s : S) (i k r : Int) : Int := if readsM s i k && aheadM s (s.o k).wr i then mulT (ceil r (s.t (s.o k).wr).period) (countM s (s.o k).wr k [18, 19]) else 0
def failsM (s : S) (i k r : Int) : Int :=
  if wrM s i k r = 0 then 0
  else if (s.o k).k = 3 ∨ (s.o k).k = 5 then wrM s i k r
  else if (s.o k).k = 4 then (if 2 < (s.o k).s then wrM s i k r / ((s.o k).s - 1) else wrM s i k r)
  else 0
def jobM (s : S) (i r : Int) : Int := (List.range s.os.length).foldl (fun a (k : Nat) => addT a (mulT (failsM s i (k : Int) r) ((s.o (k : Int)).fail 1))) (cleanM s i)
def aboveM (s : S) (i : Int) : List Int := ((List.range s.ts.length).map Int.ofNat).filter (fun k => aheadM s k i)
-- rta
def loadM (s : S) (i r : Int) (cs : List Int) : Int := (aboveM s i).foldl (fun a j => addT a (mulT (ceil r (s.t j).period) (cs.getD j.toNat 0))) (jobM s i r)
/-- how long a job may take: (time, error) -/
def goR (f : Int → Int) (d : Int) : Nat → Int → Int × Int
  | 0, _ => (0, 14)
  | n + 1, r => if d < r then (0, 13) else if r = f r then (r, 0) else goR f d n (f r)
def respM (s : S) (i : Int) (cs : List Int) : Int × Int := if inB s i then goR (fun r => loadM s i r cs) (s.t i).deadline 10001 1 else (0, 1)
def idxM (l : List Int) (x : Int) : Int := match l.findIdx? (· = x) with | some k => k | none => -1
structure Rt where
  rs : List Int
  cs : List Int
  at_ : Int
  e : Int
def rt0 (s : S) : Rt := ⟨List.replicate s.ts.length 0, List.replicate s.ts.length 0, -1, 0⟩
def rtStep (s : S) (ranks : List Int) (a : Rt) (rank : Nat) : Rt :=
  if a.e ≠ 0 then a else
  let i := idxM ranks rank
  let x := respM s i a.cs
  if x.2 ≠ 0 then ⟨[], [], i, x.2⟩ else ⟨a.rs.set i.toNat x.1, a.cs.set i.toNat (jobM s i x.1), -1, 0⟩
def allM (s : S) (ranks : List Int) : Nat → Rt
  | 0 => rt0 s
  | n + 1 => rtStep s ranks (allM s ranks n) n
-- size
def tickM (rs : List Int) (i : Int) : Int := if i < 0 ∨ (rs.length : Int) ≤ i then 0 else rs.getD i.toNat 0
def mostR (o : O) (f : Int → Int) : Int := o.rds.foldl (fun n i => max n (f i)) 0
def triesB (k : Int) : Bool := decide (k = 3 ∨ k = 4 ∨ k = 5)
def slotsM (s : S) (k : Int) (rs : List Int) : Int := 2 + mostR (s.o k) (fun i => wrM s i k (tickM rs i))
def capsM (s : S) (k : Int) (rs : List Int) : Int := 1 + mostR (s.o k) (fun i => failsM s i k (tickM rs i))
def fitO (s : S) (rs : List Int) (k : Int) (o : O) : O :=
  { o with s := if o.k = 4 then max o.s (slotsM s k rs) else o.s, c := if triesB o.k then max o.c (capsM s k rs) else o.c }
def fitM (s : S) (rs : List Int) : S := ⟨s.ts, (List.range s.os.length).map fun (k : Nat) => fitO s rs (k : Int) (s.o (k : Int))⟩
-- admit
def spoiltM (s : S) (i k r : Int) : Int :=
  if (s.o k).k = 4 then (if (s.o k).s < 2 + wrM s i k r then 11 else 0)
  else if (s.o k).k = 3 ∨ (s.o k).k = 5 then (if (s.o k).c ≤ failsM s i k r then 12 else 0) else 0
structure FineS (s : S) : Prop where
  nt : 1 ≤ s.ts.length ∧ s.ts.length ≤ 8
  no : s.os.length ≤ 8
  nums : ∀ t ∈ s.ts, (t.kind = 1 ∨ t.kind = 2 ∧ t.offset = 0) ∧ (0 ≤ t.prio ∧ t.prio ≤ 255) ∧ (1 ≤ t.period ∧ t.period ≤ 1048576) ∧ (0 ≤ t.offset ∧ t.offset ≤ 1048576) ∧ (1 ≤ t.deadline ∧ t.deadline ≤ t.period) ∧ 1 ≤ t.own ∧ t.own ≤ 64
  code : ∀ t ∈ s.ts, FineP t.code
  right : ∀ o ∈ s.os, o.right = true
  who : ∀ o ∈ s.os, (o.wr :: o.rds).Nodup ∧ ∀ x ∈ o.wr :: o.rds, 0 ≤ x ∧ x < 8 ∧ x < s.ts.length
  call : ∀ (i : Nat) (t : T), s.ts[i]? = some t → ∀ c ∈ t.code, callI c.op ≠ 0 → (0 ≤ c.b ∧ c.b < s.os.length) ∧ (callI c.op = writesI (s.o c.b).k ∨ callI c.op = readsI (s.o c.b).k) ∧ callI c.op = roleM s i c.b ∧ c.n + (s.o c.b).w ≤ t.own
-- the plain law
theorem inside_mono {a b : Int} (h : a ≤ b) : inside a ≤ inside b := by unfold inside; omega
theorem addT_mono {a b c d : Int} (h : a ≤ b) (h2 : c ≤ d) : addT a c ≤ addT b d := by
  unfold addT; exact inside_mono (by have := inside_mono h; have := inside_mono h2; omega)
theorem mulT_mono {a b c d : Int} (h : a ≤ b) (h2 : c ≤ d) : mulT a c ≤ mulT b d := by
  unfold mulT
  have h3 : inside a * inside c ≤ inside b * inside d := Int.mul_le_mul (inside_mono h) (inside_mono h2) (inside_bd c).1 (inside_bd b).1
  omega
theorem mulT_nn (a b : Int) : 0 ≤ mulT a b := by
  unfold mulT
  have := Int.mul_nonneg (inside_bd a).1 (inside_bd b).1
  omega
theorem ceil_mono {a b p : Int} (h : a ≤ b) : ceil a p ≤ ceil b p := by
  unfold ceil
  split
  · split
    · omega
    · have := Int.ediv_nonneg (a := b - 1) (b := p) (by omega) (by omega); omega
  · rename_i h1
    rw [if_neg (by omega)]
    have := Int.ediv_le_ediv (a := a - 1) (b := b - 1) (c := p) (by omega) (by omega)
    omega
theorem div_anti {n a b : Int} (hn : 0 ≤ n) (ha : 0 < a) (h : a ≤ b) : n / b ≤ n / a := by
  rw [Int.le_ediv_iff_mul_le ha]
  have h1 : n / b * a ≤ n / b * b := Int.mul_le_mul_of_nonneg_left h (Int.ediv_nonneg hn (by omega))
  have h2 := Int.ediv_mul_le n (b := b) (by omega)
  omega
theorem fold_mono {α : Type} {g g' : α → Int} : ∀ (l : List α) {a a' : Int}, a ≤ a' → (∀ k ∈ l, g k ≤ g' k) → l.foldl (fun a k => addT a (g k)) a ≤ l.foldl (fun a k => addT a (g' k)) a'
  | [], _, _, h, _ => h
  | x :: r, _, _, h, hg => fold_mono r (addT_mono h (hg x (by simp))) (fun k hk => hg k (by simp [hk]))
/-- two systems that differ in slots and attempts alone -/
structure Like (s x : S) : Prop where
  ts : x.ts = s.ts
  len : x.os.length = s.os.length
  o : ∀ k, (x.o k).k = (s.o k).k ∧ (x.o k).w = (s.o k).w ∧ (x.o k).wr = (s.o k).wr ∧ (x.o k).rds = (s.o k).rds ∧ (x.o k).ini = (s.o k).ini ∧ (s.o k).s ≤ (x.o k).s
  right : ∀ k, (x.o k).right = (s.o k).right
theorem Like.t {s x : S} (h : Like s x) (i : Int) : x.t i = s.t i := by unfold S.t; rw [h.ts]
theorem clean_free (k w s c st s' c' st' il rl op : Int) (h : rightB k w s c st il rl = rightB k w s' c' st' il rl) : cleanI k w s c st il rl op = cleanI k w s' c' st' il rl op := by
  unfold cleanI boundI
  rw [h]
  by_cases hr : retB k op = true
  · by_cases h2 : rightB k w s' c' st' il rl = true <;> simp [hr, h2]
  · have hr : retB k op = false := by simpa using hr
    by_cases h2 : rightB k w s' c' st' il rl = true
    · simp only [hr, h2, Bool.and_false, Bool.false_eq_true, if_false, if_true]
      simp only [retB, decide_eq_false_iff_not] at hr
      unfold boundK
      by_cases h1 : op = 1
      · rw [if_neg (show ¬ k = 3 by omega), if_neg (show ¬ k = 4 by omega), if_neg (show ¬ k = 5 by omega)]
        rw [if_neg (show ¬ k = 3 by omega), if_neg (show ¬ k = 4 by omega), if_neg (show ¬ k = 5 by omega)]
      · simp only [h1, if_false]
    · simp [h2]
theorem Like.weight {s x : S} (h : Like s x) : weightM x.os = weightM s.os := by
  funext c
  unfold weightM
  rw [h.len]
  by_cases hc : callB c = false ∨ (s.os.length : Int) ≤ c.b
  · rw [if_pos hc, if_pos hc]
  · rw [if_neg hc, if_neg hc]
    have ho := h.o c.b
    have hr := h.right c.b
    unfold S.o at ho hr
    generalize x.os.getD c.b.toNat oD = a at *
    generalize s.os.getD c.b.toNat oD = b at *
    obtain ⟨h1, h2, h3, h4, h5, h6⟩ := ho
    unfold O.after afterI
    unfold O.right at hr
    rw [h1, h2, h4, h5] at hr ⊢
    rw [clean_free _ _ _ _ _ _ _ _ _ _ _ hr]
    have e1 : max 0 (min 0 (max (a.c - 1) 0)) = 0 := by omega
    have e2 : max 0 (min 0 (max (b.c - 1) 0)) = 0 := by omega
    rw [e1, e2, Int.zero_mul, Int.zero_mul]
theorem Like.clean {s x : S} (h : Like s x) (i : Int) : cleanM x i = cleanM s i := by unfold cleanM; rw [h.t, h.weight]
theorem Like.count {s x : S} (h : Like s x) (i k : Int) (ops : List Int) : countM x i k ops = countM s i k ops := by unfold countM; rw [h.t]
theorem Like.role {s x : S} (h : Like s x) (i k : Int) : roleM x i k = roleM s i k := by
  unfold roleM; rw [(h.o k).1, (h.o k).2.2.1, (h.o k).2.2.2.1]
theorem Like.reads {s x : S} (h : Like s x) (i k : Int) : readsM x i k = readsM s i k := by unfold readsM; rw [h.role, h.count]
theorem Like.ahead {s x : S} (h : Like s x) (a b : Int) : aheadM x a b = aheadM s a b := by unfold aheadM inB; rw [h.ts, h.t, h.t]
theorem Like.hope {s x : S} (h : Like s x) (i k : Int) : hopeM x i k = hopeM s i k := by unfold hopeM; rw [h.reads, h.ahead, (h.o k).1, (h.o k).2.2.1]
theorem Like.wr {s x : S} (h : Like s x) (i k r : Int) : wrM x i k r = wrM s i k r := by unfold wrM; rw [h.reads, (h.o k).2.2.1, h.ahead, h.t, h.count]
theorem wrM_nn (s : S) (i k r : Int) : 0 ≤ wrM s i k r := by
  unfold wrM; split
  · exact mulT_nn _ _
  · omega
theorem wrM_mono (s : S) (i k : Int) {r r' : Int} (h : r ≤ r') : wrM s i k r ≤ wrM s i k r' := by
  unfold wrM; split
  · exact mulT_mono (ceil_mono h) (Int.le_refl _)
  · omega
theorem Like.fails {s x : S} (h : Like s x) (i k : Int) {r r' : Int} (hr : r ≤ r') : 0 ≤ failsM x i k r ∧ failsM x i k r ≤ failsM s i k r' := by
  have hm := wrM_mono s i k hr
  have h0 := wrM_nn s i k r
  have ho := h.o k
  unfold failsM
  rw [h.wr, ho.1]
  by_cases hz : wrM s i k r = 0
  · rw [if_pos hz]
    refine ⟨Int.le_refl _, ?_⟩
    split
    · omega
    · split
      · omega
      · split
        · split
          · exact Int.ediv_nonneg (by omega) (by omega)
          · omega
        · omega
  · rw [if_neg hz, if_neg (show ¬ wrM s i k r' = 0 by omega)]
    by_cases h3 : (s.o k).k = 3 ∨ (s.o k).k = 5
    · rw [if_pos h3, if_pos h3]; omega
    · rw [if_neg h3, if_neg h3]
      by_cases h4 : (s.o k).k = 4
      · rw [if_pos h4, if_pos h4]
        by_cases h5 : 2 < (s.o k).s
        · rw [if_pos h5, if_pos (by omega)]
          refine ⟨Int.ediv_nonneg h0 (by omega), Int.le_trans (div_anti h0 (a := (s.o k).s - 1) (by omega) (by omega)) (Int.ediv_le_ediv (by omega) hm)⟩
        · rw [if_neg h5]
          by_cases h6 : 2 < (x.o k).s
          · rw [if_pos h6]
            refine ⟨Int.ediv_nonneg h0 (by omega), Int.le_trans (Int.ediv_le_self _ h0) hm⟩
          · rw [if_neg h6]; omega
      · rw [if_neg h4, if_neg h4]; omega
theorem Like.fail {s x : S} (h : Like s x) (k op : Int) : (x.o k).fail op = (s.o k).fail op := by
  have hr := h.right k
  have ho := h.o k
  unfold O.fail failI
  unfold O.right at hr
  rw [ho.1, ho.2.1, ho.2.2.2.1, ho.2.2.2.2.1] at hr ⊢
  rw [hr]
theorem Like.job {s x : S} (h : Like s x) (i : Int) {r r' : Int} (hr : r ≤ r') : jobM x i r ≤ jobM s i r' := by
  unfold jobM
  rw [h.len]
  refine fold_mono _ (by rw [h.clean]; exact Int.le_refl _) fun k _ => ?_
  rw [h.fail]
  exact mulT_mono (h.fails i k hr).2 (Int.le_refl _)
theorem Like.load {s x : S} (h : Like s x) (i : Int) {r r' : Int} (hr : r ≤ r') {cs cs' : List Int} (hc : ∀ j : Nat, cs.getD j 0 ≤ cs'.getD j 0) : loadM x i r cs ≤ loadM s i r' cs' := by
  unfold loadM
  have ha : aboveM x i = aboveM s i := by
    unfold aboveM
    rw [h.ts]
    congr 1
    funext k
    exact h.ahead k i
  rw [ha]
  refine fold_mono _ (h.job i hr) fun j _ => ?_
  rw [h.t]
  exact mulT_mono (ceil_mono hr) (hc _)
theorem Like.refl (s : S) : Like s s := ⟨rfl, rfl, fun _ => ⟨rfl, rfl, rfl, rfl, rfl, Int.le_refl _⟩, fun _ => rfl⟩
theorem ceil_low {r p : Int} (h : r < 1) : ceil r p = 0 := by unfold ceil; rw [if_pos (.inl h)]
theorem wr_low (s : S) (i k : Int) {r : Int} (h : r < 1) : wrM s i k r = wrM s i k 0 := by unfold wrM; rw [ceil_low h, ceil_low (show (0 : Int) < 1 by omega)]
theorem load_low (s : S) (i : Int) (cs : List Int) {r : Int} (h : r < 1) : loadM s i r cs = loadM s i 0 cs := by
  unfold loadM jobM failsM
  simp only [wr_low s i _ h, ceil_low h, ceil_low (show (0 : Int) < 1 by omega)]
-- the search for a response time
def it (f : Int → Int) : Nat → Int → Int
  | 0, r => r
  | n + 1, r => it f n (f r)
theorem it_succ (f : Int → Int) : ∀ n r, it f (n + 1) r = f (it f n r)
  | 0, _ => rfl
  | n + 1, r => by rw [it, it_succ f n, it]
theorem it_fix {f : Int → Int} {r : Int} (h : f r = r) : ∀ n, it f n r = r
  | 0 => rfl
  | n + 1 => by rw [it, h, it_fix h n]
theorem it_add (f : Int → Int) (r : Int) (m : Nat) : ∀ n, it f (m + n) r = it f n (it f m r)
  | 0 => rfl
  | n + 1 => by rw [Nat.add_succ, it_succ, it_succ, it_add f r m n]
theorem goR_ok {f : Int → Int} {d : Int} : ∀ (n : Nat) (r x : Int), goR f d n r = (x, 0) → ∃ m, m < n ∧ x = it f m r ∧ f x = x ∧ ∀ j, j ≤ m → it f j r ≤ d
  | 0, r, x, h => by simp [goR] at h
  | n + 1, r, x, h => by
      unfold goR at h
      split at h
      · simp at h
      · split at h
        · rename_i h1 h2
          simp at h
          subst h
          exact ⟨0, by omega, rfl, h2.symm, fun j hj => by have : j = 0 := by omega
                                                           subst this; simp only [it]; omega⟩
        · rename_i h1 h2
          obtain ⟨m, hm, hx, hf, hj⟩ := goR_ok n _ _ h
          refine ⟨m + 1, by omega, hx, hf, fun j hj2 => ?_⟩
          match j with
          | 0 => simp only [it]; omega
          | j + 1 => exact hj j (by omega)
theorem goR_to {f : Int → Int} {d : Int} : ∀ (n m : Nat) (r : Int), m < n → f (it f m r) = it f m r → (∀ j, j ≤ m → it f j r ≤ d) → ∃ m', m' ≤ m ∧ goR f d n r = (it f m' r, 0) ∧ f (it f m' r) = it f m' r
  | 0, m, r, hm, _, _ => by omega
  | n + 1, m, r, hm, hf, hd => by
      unfold goR
      have h0 := hd 0 (by omega)
      simp only [it] at h0
      rw [if_neg (by omega)]
      by_cases hr : r = f r
      · rw [if_pos hr]
        exact ⟨0, by omega, rfl, hr.symm⟩
      · rw [if_neg hr]
        match m with
        | 0 => exact absurd hf.symm hr
        | m + 1 =>
          obtain ⟨m', h1, h2, h3⟩ := goR_to n m (f r) (by omega) hf (fun j hj => hd (j + 1) (by omega))
          exact ⟨m' + 1, by omega, h2, h3⟩
theorem rise {b : Nat → Int} {N : Nat} (hup : ∀ j, b j ≤ b (j + 1)) (hne : ∀ j, j < N → b j ≠ b (j + 1)) : b 0 + N ≤ b N := by
  induction N with
  | zero => simp
  | succ n ih =>
      have := ih fun j hj => hne j (by omega)
      have h1 := hup n
      have h2 := hne n (by omega)
      push_cast
      omega
theorem settles {g : Int → Int} (hg : ∀ r r', r ≤ r' → g r ≤ g r') (hlow : ∀ r, r < 1 → g r = g 0) (hd : ∀ j, it g j 1 ≤ 400) : ∃ m, m ≤ 400 ∧ g (it g m 1) = it g m 1 := by
  by_cases h1 : 1 ≤ g 1
  · have hup : ∀ j, it g j 1 ≤ it g (j + 1) 1 := by
      intro j
      induction j with
      | zero => exact h1
      | succ n ih => rw [it_succ, it_succ g (n + 1)]; exact hg _ _ ih
    refine Classical.byContradiction fun hn => ?_
    have := rise (b := fun j => it g j 1) (N := 400) hup (fun j hj he => hn ⟨j, by omega, by rw [← it_succ g]; exact he.symm⟩)
    have h2 := hd 400
    have h4 : (it g 0 1 : Int) = 1 := rfl
    simp only [h4] at this
    omega
  · refine ⟨2, by omega, ?_⟩
    have e1 : it g 2 1 = g (g 1) := rfl
    rw [e1]
    have h2 : g (g 1) ≤ g 1 := hg _ _ (by omega)
    rw [hlow (g 1) (by omega)] at h2 ⊢
    exact hlow _ (by omega)
theorem goR_le {f g : Int → Int} {d x : Int} (hgf : ∀ r r', r ≤ r' → g r ≤ f r') (hg : ∀ r r', r ≤ r' → g r ≤ g r') (hlow : ∀ r, r < 1 → g r = g 0) (hd : d ≤ 400) (h : goR f d 10001 1 = (x, 0)) :
    ∃ y, goR g d 10001 1 = (y, 0) ∧ y ≤ x := by
  obtain ⟨m, hm, hx, hf, hj⟩ := goR_ok _ _ _ h
  have hle : ∀ j, it g j 1 ≤ it f j 1 := by
    intro j
    induction j with
    | zero => exact Int.le_refl _
    | succ n ih => rw [it_succ, it_succ]; exact hgf _ _ ih
  have hfd : ∀ j, it f j 1 ≤ d := by
    intro j
    by_cases hjm : j ≤ m
    · exact hj j hjm
    · have e : j = m + (j - m) := by omega
      rw [e, it_add, ← hx, it_fix hf, hx]
      exact hj m (Nat.le_refl _)
  obtain ⟨n, hn, hfix⟩ := settles hg hlow (fun j => by have := hle j; have := hfd j; omega)
  obtain ⟨n', h1, h2, h3⟩ := goR_to (f := g) (d := d) 10001 n 1 (by omega) hfix (fun j _ => by have := hle j; have := hfd j; omega)
  refine ⟨_, h2, ?_⟩
  have e1 : it g n' 1 = it g (n' + m) 1 := by rw [it_add, it_fix h3]
  have e2 : it f (m + n') 1 = x := by rw [it_add, ← hx, it_fix hf]
  rw [e1, ← e2, Nat.add_comm m n']
  exact hle _
theorem t_mem {s : S} {i : Int} (h : inB s i = true) : s.t i ∈ s.ts := by
  simp only [inB, decide_eq_true_eq] at h
  unfold S.t
  have : i.toNat < s.ts.length := by omega
  rw [List.getD_eq_getElem?_getD, List.getElem?_eq_getElem this]
  exact List.getElem_mem _
theorem Like.resp {s x : S} (h : Like s x) (hd : ∀ t ∈ s.ts, t.deadline ≤ 400) {i r : Int} {cs cs' : List Int} (hc : ∀ j : Nat, cs.getD j 0 ≤ cs'.getD j 0) (hr : respM s i cs' = (r, 0)) : ∃ r', respM x i cs = (r', 0) ∧ r' ≤ r := by
  unfold respM at hr ⊢
  have hi : inB x i = inB s i := by unfold inB; rw [h.ts]
  rw [hi]
  by_cases hb : inB s i = true
  · rw [if_pos hb] at hr ⊢
    rw [h.t]
    have hxx : Like x x := Like.refl x
    exact goR_le (fun a b hab => h.load i hab hc) (fun a b hab => hxx.load i hab (fun _ => Int.le_refl _)) (fun a ha => load_low x i cs ha) (hd _ (t_mem hb)) hr
  · rw [if_neg hb] at hr; simp at hr
theorem getD_set_le {l l' : List Int} (hl : l.length = l'.length) (h : ∀ j : Nat, l.getD j 0 ≤ l'.getD j 0) (n : Nat) {a b : Int} (hab : a ≤ b) : ∀ j : Nat, (l.set n a).getD j 0 ≤ (l'.set n b).getD j 0 := by
  intro j
  have hj := h j
  simp only [List.getD_eq_getElem?_getD, List.getElem?_set] at hj ⊢
  rw [hl]
  by_cases h1 : n = j
  · simp only [h1, if_true]
    split
    · exact hab
    · exact Int.le_refl _
  · simp only [h1, if_false]; exact hj
theorem Like.all {s x : S} (h : Like s x) (hd : ∀ t ∈ s.ts, t.deadline ≤ 400) (ranks : List Int) : ∀ n, (allM s ranks n).e = 0 →
    (allM x ranks n).e = 0 ∧ ((allM x ranks n).rs.length = s.ts.length ∧ (allM s ranks n).rs.length = s.ts.length ∧ (allM x ranks n).cs.length = s.ts.length ∧ (allM s ranks n).cs.length = s.ts.length) ∧
    (∀ j : Nat, (allM x ranks n).rs.getD j 0 ≤ (allM s ranks n).rs.getD j 0) ∧ ∀ j : Nat, (allM x ranks n).cs.getD j 0 ≤ (allM s ranks n).cs.getD j 0
  | 0, _ => by
      simp only [allM, rt0, List.length_replicate, h.ts]
      exact ⟨trivial, ⟨trivial, trivial, trivial, trivial⟩, fun _ => Int.le_refl _, fun _ => Int.le_refl _⟩
  | n + 1, he => by
      unfold allM rtStep at he ⊢
      by_cases h0 : (allM s ranks n).e = 0
      · obtain ⟨h1, ⟨l1, l2, l3, l4⟩, h2, h3⟩ := Like.all h hd ranks n h0
        simp only [h0, h1, ne_eq, not_true, if_false] at he ⊢
        generalize hq : respM s (idxM ranks n) (allM s ranks n).cs = q at he ⊢
        obtain ⟨r, e⟩ := q
        by_cases hz : e = 0
        · subst hz
          obtain ⟨r', hr', hle⟩ := h.resp hd h3 hq
          simp only [hr', ne_eq, not_true, if_false, List.length_set]
          exact ⟨trivial, ⟨l1, l2, l3, l4⟩, getD_set_le (by omega) h2 _ hle, getD_set_le (by omega) h3 _ (h.job _ hle)⟩
        · simp only [ne_eq, hz, not_false_eq_true, if_true] at he
          try exact absurd he hz
      · rw [if_pos h0] at he; exact absurd he h0
theorem fit_o (s : S) (rs : List Int) (k : Int) : (fitM s rs).o k = if k.toNat < s.os.length then fitO s rs k.toNat (s.o k) else s.o k := by
  unfold S.o fitM
  simp only [List.getD_eq_getElem?_getD, List.getElem?_map, List.getElem?_range]
  by_cases h : k.toNat < s.os.length
  · rw [if_pos h]
    simp [h, S.o]
  · rw [if_neg h]
    simp [h]
theorem fit_like (s : S) (rs : List Int) (hs : FineS s) (hx : FineS (fitM s rs)) : Like s (fitM s rs) := by
  have hlen : (fitM s rs).os.length = s.os.length := by simp [fitM]
  have ho : ∀ k, ((fitM s rs).o k).k = (s.o k).k ∧ ((fitM s rs).o k).w = (s.o k).w ∧ ((fitM s rs).o k).wr = (s.o k).wr ∧ ((fitM s rs).o k).rds = (s.o k).rds ∧ ((fitM s rs).o k).ini = (s.o k).ini ∧ (s.o k).s ≤ ((fitM s rs).o k).s := by
    intro k
    rw [fit_o]
    split
    · unfold fitO
      refine ⟨rfl, rfl, rfl, rfl, rfl, ?_⟩
      show (s.o k).s ≤ if (s.o k).k = 4 then _ else (s.o k).s
      split
      · omega
      · omega
    · exact ⟨rfl, rfl, rfl, rfl, rfl, Int.le_refl _⟩
  refine ⟨rfl, hlen, ho, fun k => ?_⟩
  by_cases h : k.toNat < s.os.length
  · have e1 : s.o k ∈ s.os := by unfold S.o; rw [List.getD_eq_getElem?_getD, List.getElem?_eq_getElem h]; exact List.getElem_mem _
    have e2 : (fitM s rs).o k ∈ (fitM s rs).os := by unfold S.o; rw [List.getD_eq_getElem?_getD, List.getElem?_eq_getElem (by rw [hlen]; exact h)]; exact List.getElem_mem _
    rw [hs.right _ e1, hx.right _ e2]
  · rw [fit_o, if_neg h]
theorem most_ge (f : Int → Int) : ∀ (l : List Int) (n : Int), n ≤ l.foldl (fun n i => max n (f i)) n ∧ ∀ i ∈ l, f i ≤ l.foldl (fun n i => max n (f i)) n
  | [], n => ⟨Int.le_refl _, by simp⟩
  | a :: r, n => by
      have h := most_ge f r (max n (f a))
      simp only [List.foldl_cons]
      refine ⟨by omega, fun i hi => ?_⟩
      rcases List.mem_cons.1 hi with rfl | hi
      · omega
      · exact h.2 i hi
theorem law (s : S) (ranks : List Int) (hs : FineS s) (hd : ∀ t ∈ s.ts, t.deadline ≤ 400) (hh : ∀ i k : Nat, i < s.ts.length → k < s.os.length → hopeM s i k = false)
    (ha : (allM s ranks s.ts.length).e = 0) (hx : FineS (fitM s (allM s ranks s.ts.length).rs)) :
    let x := fitM s (allM s ranks s.ts.length).rs
    (∀ i k : Nat, i < s.ts.length → k < s.os.length → hopeM x i k = false) ∧ (allM x ranks s.ts.length).e = 0 ∧
    ((allM x ranks s.ts.length).rs.length = s.ts.length ∧ (allM s ranks s.ts.length).rs.length = s.ts.length) ∧ (∀ j : Nat, (allM x ranks s.ts.length).rs.getD j 0 ≤ (allM s ranks s.ts.length).rs.getD j 0) ∧
    ∀ k : Nat, k < s.os.length → ∀ i ∈ (x.o k).rds, spoiltM x i k ((allM x ranks s.ts.length).rs.getD i.toNat 0) = 0 := by
  intro x
  have L : Like s x := fit_like s _ hs hx
  obtain ⟨h1, ⟨l1, l2, l3, l4⟩, h2, h3⟩ := L.all hd ranks _ ha
  refine ⟨fun i k hi hk => by rw [L.hope]; exact hh i k hi hk, h1, ⟨l1, l2⟩, h2, fun k hk i hi => ?_⟩
  have hrd : (x.o k).rds = (s.o k).rds := (L.o k).2.2.2.1
  rw [hrd] at hi
  have hmem : s.o k ∈ s.os := by unfold S.o; rw [List.getD_eq_getElem?_getD, List.getElem?_eq_getElem (by omega)]; exact List.getElem_mem _
  have hw := (hs.who _ hmem).2 i (List.mem_cons_of_mem _ hi)
  have htick : tickM (allM s ranks s.ts.length).rs i = (allM s ranks s.ts.length).rs.getD i.toNat 0 := by unfold tickM; rw [if_neg (by omega)]
  have hle := h2 i.toNat
  have hxo : x.o k = fitO s (allM s ranks s.ts.length).rs k (s.o k) := by
    show (fitM s (allM s ranks s.ts.length).rs).o k = _
    rw [fit_o, if_pos (by omega)]; rfl
  unfold spoiltM
  rw [(L.o k).1]
  by_cases h4 : (s.o k).k = 4
  · rw [if_pos h4, if_neg]
    have hsl : (x.o k).s = max (s.o k).s (slotsM s k (allM s ranks s.ts.length).rs) := by rw [hxo]; simp [fitO, h4]
    have hm : wrM s i k (tickM (allM s ranks s.ts.length).rs i) ≤ mostR (s.o k) (fun i => wrM s i k (tickM (allM s ranks s.ts.length).rs i)) := (most_ge (fun i => wrM s i k (tickM (allM s ranks s.ts.length).rs i)) (s.o k).rds 0).2 i hi
    rw [htick] at hm
    have hmono := wrM_mono s i k hle
    rw [hsl, L.wr]
    unfold slotsM
    omega
  · rw [if_neg h4]
    by_cases h5 : (s.o k).k = 3 ∨ (s.o k).k = 5
    · rw [if_pos h5, if_neg]
      have hcp : (x.o k).c = max (s.o k).c (capsM s k (allM s ranks s.ts.length).rs) := by
        rw [hxo]
        have : triesB (s.o k).k = true := by simp only [triesB, decide_eq_true_eq]; omega
        simp [fitO, this]
      have hm : failsM s i k (tickM (allM s ranks s.ts.length).rs i) ≤ mostR (s.o k) (fun i => failsM s i k (tickM (allM s ranks s.ts.length).rs i)) := (most_ge (fun i => failsM s i k (tickM (allM s ranks s.ts.length).rs i)) (s.o k).rds 0).2 i hi
      rw [htick] at hm
      have hmono := (L.fails i k hle).2
      rw [hcp]
      unfold capsM
      omega
    · rw [if_neg h5]
end Go.Proofs.YtkedegbpkkgeaaaGreat.tf
