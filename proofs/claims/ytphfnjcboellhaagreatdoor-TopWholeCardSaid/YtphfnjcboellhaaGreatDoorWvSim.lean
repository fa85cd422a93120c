import Derived.Test.YtphfnjcboellhaaGreatDoorWvFin
import Derived.Test.YtphfnjcboellhaaGreatDoorWvRun
import Derived.Test.YtphfnjcboellhaaGreatDoorFourC
namespace Go.Proofs.YtphfnjcboellhaaGreatDoor.wv
open Go Go.RowKit kit obj mem core
structure SimK (K : Kind) (Rc : Core -> Core -> Prop) (Rw : List Int -> List Int -> Prop) : Prop where
 step : ∀ {x x' : Core} {mv mv' : Value} {r ws ws' : List Int}, Rc x x' -> Rw ws ws' -> K.Shape x r -> K.Shape x' r -> x.over = false -> x.base = 0 -> x'.base = 0 -> x.size = ws.length -> (∀ z ∈ ws, 0 <= z /\ z <= 4294967295) -> (∀ z ∈ ws', 0 <= z /\ z <= 4294967295) →
  Rc (K.step x mv r ws).1 (K.step x' mv' r ws').1 /\ (K.step x' mv' r ws').2.1 = (K.step x mv r ws).2.1 /\ Rw (K.step x mv r ws).2.2 (K.step x' mv' r ws').2.2
 over : ∀ {x x' : Core}, Rc x x' -> x'.over = x.over /\ x'.code = x.code
def OR (Rc : Core -> Core -> Prop) : Option (Core × List Int) -> Option (Core × List Int) -> Prop
 | none, none => True
 | some q, some q' => Rc q.1 q'.1 /\ q'.2 = q.2
 | _, _ => False
structure PR (Rc : Core -> Core -> Prop) (p p' : PM) : Prop where
 left : p'.left = p.left
 call : p'.call = p.call
 o : OR Rc p.o p'.o
structure LoR (Rc : Core -> Core -> Prop) (Rw : List Int -> List Int -> Prop) (L L' : Lo) : Prop where
 ws : Rw L.ws L'.ws
 len : L'.ps.length = L.ps.length
 ps : ∀ (k : Nat) p p', L.ps[k]? = some p -> L'.ps[k]? = some p' -> PR Rc p p'
 cs : L'.cs = L.cs
 now : L'.now = L.now
section
variable {K : Kind} {Rc : Core -> Core -> Prop} {Rw : List Int -> List Int -> Prop}
end
def seqRc (D : Int) (x x' : Core) : Prop := ∃ st m a, x' = { x with st := st, m := m, a := a } /\ (x.phase ≠ 0 -> a = (x.a + D) % 4294967296)
def seqRw (D : Int) (ws ws' : List Int) : Prop := ∃ v l, ws = v :: l /\ ws' = (v + D) % 4294967296 :: l
theorem addm (x y m : Int) : (x % m + y) % m = (x + y) % m := by
 rw [Int.emod_def x m, show x - m * (x / m) + y = (x + y) + m * (-(x / m)) by rw [Int.mul_neg]; omega, Int.add_mul_emod_self_left]
theorem subm (x y m : Int) : (x - y % m) % m = (x - y) % m := by
 rw [Int.emod_def y m, show x - (y - m * (y / m)) = (x - y) + m * (y / m) by omega, Int.add_mul_emod_self_left]
theorem gap_eq (f t m : Int) (hm : m ≠ 0) : word.gapU f t m = (t - f) % m := by
 unfold word.gapU
 rw [if_neg hm, show t % m + m - f % m = t % m + (m - f % m) by omega, addm, show t + (m - f % m) = (t + m) - f % m by omega, subm, show t + m - f = (t - f) + m * 1 by omega, Int.add_mul_emod_self_left]
def rot (s d j : Nat) : Nat := if j + d < s then j + d else j + d - s
theorem idx_inj {w j i k l : Nat} (hi : i < w) (hl : l < w) (h : j * w + i = k * w + l) : j = k /\ i = l := by
 rcases Nat.lt_trichotomy j k with h1 | h1 | h1
 · have := Nat.mul_le_mul_right w (show j + 1 <= k from h1)
   rw [Nat.add_mul, Nat.one_mul] at this
   omega
 · subst h1; exact ⟨rfl, by omega⟩
 · have := Nat.mul_le_mul_right w (show k + 1 <= j from h1)
   rw [Nat.add_mul, Nat.one_mul] at this
   omega
theorem idx_lt {s w j i : Nat} (hj : j < s) (hi : i < w) : j * w + i < s * w := by
 have := Nat.mul_le_mul_right w (show j + 1 <= s from hj)
 rw [Nat.add_mul, Nat.one_mul] at this
 omega
theorem getD_set (l : List Int) (n m : Nat) (v : Int) : (l.set n v).getD m 0 = if n = m /\ n < l.length then v else l.getD m 0 := by
 rw [List.getD_eq_getElem?_getD, List.getD_eq_getElem?_getD, List.getElem?_set]
 by_cases h : n = m
 · subst h
   by_cases h2 : n < l.length
   · rw [if_pos rfl, if_pos h2, if_pos ⟨rfl, h2⟩]; rfl
   · rw [if_pos rfl, if_neg h2, if_neg (fun h => h2 h.2), List.getElem?_eq_none (by omega)]
 · rw [if_neg h, if_neg (fun h3 => h h3.1)]
structure RotW (h s w : Nat) (M D : Int) (d : Nat) (ws ws' : List Int) : Prop where
 len : ws.length = h + s * w
 len' : ws'.length = h + s * w
 head : ∀ c, c < h -> 0 <= ws.getD c 0 /\ ws.getD c 0 < M /\ ws'.getD c 0 = (ws.getD c 0 + D) % M
 slot : ∀ j i, j < s -> i < w -> ws'.getD (h + (rot s d j * w + i)) 0 = ws.getD (h + (j * w + i)) 0
section
variable {h s w : Nat} {M D : Int} {d : Nat} {ws ws' : List Int}
end
def ringRc (s w : Nat) (D : Int) (x x' : Core) : Prop := ∃ st m a, x' = { x with st := st, m := m, a := a } /\ x.s = (s : Int) /\ x.w = (w : Int) /\ (x.phase ≠ 0 -> (0 <= x.a /\ x.a < (s : Int) * 1048576) /\ a = (x.a + D) % ((s : Int) * 1048576))
theorem from_1 {s w : Nat} (h0 : 0 < s) (a : Int) : (1 + a % (s : Int) * (w : Int)).toNat = 1 + (a % (s : Int)).toNat * w := by
 have h1 := Int.emod_nonneg a (show (s : Int) ≠ 0 by omega)
 obtain ⟨j, hj⟩ : ∃ j : Nat, a % (s : Int) = j := ⟨(a % (s : Int)).toNat, by omega⟩
 rw [hj, Int.toNat_natCast, show (1 + (j : Int) * (w : Int)) = ((1 + j * w : Nat) : Int) by rw [Int.natCast_add, Int.natCast_mul]; rfl, Int.toNat_natCast]
theorem from_2 {s w : Nat} (h0 : 0 < s) (a : Int) : (2 + a % (s : Int) * (w : Int)).toNat = 2 + (a % (s : Int)).toNat * w := by
 have h1 := Int.emod_nonneg a (show (s : Int) ≠ 0 by omega)
 obtain ⟨j, hj⟩ : ∃ j : Nat, a % (s : Int) = j := ⟨(a % (s : Int)).toNat, by omega⟩
 rw [hj, Int.toNat_natCast, show (2 + (j : Int) * (w : Int)) = ((2 + j * w : Nat) : Int) by rw [Int.natCast_add, Int.natCast_mul]; rfl, Int.toNat_natCast]
def fifoRc (s w : Nat) (D : Int) (x x' : Core) : Prop := ∃ st m a, x' = { x with st := st, m := m, a := a } /\ x.s = (s : Int) /\ x.w = (w : Int) /\ (x.phase ≠ 0 -> (0 <= x.a /\ x.a < 2 * (s : Int)) /\ a = (x.a + D) % (2 * (s : Int)))
theorem fill_getD (ws l : List Int) (i n : Nat) (h : i + l.length <= ws.length) : (mem.fillL ws i l).getD n 0 = if n < i then ws.getD n 0 else if n < i + l.length then l.getD (n - i) 0 else ws.getD n 0 := by
 unfold mem.fillL
 have ht : (ws.take i).length = i := by rw [List.length_take]; omega
 rw [List.getD_eq_getElem?_getD, List.getElem?_append, ht]
 by_cases h1 : n < i
 · rw [if_pos h1, if_pos h1, List.getElem?_take, if_pos h1, List.getD_eq_getElem?_getD]
 · rw [if_neg h1, if_neg h1, List.getElem?_append]
   by_cases h2 : n < i + l.length
   · rw [if_pos (by omega), if_pos h2, List.getD_eq_getElem?_getD]
   · rw [if_neg (by omega), if_neg h2, List.getElem?_drop, List.getD_eq_getElem?_getD]
     congr 2
     omega
theorem rep_getD (N n : Nat) : (List.replicate N (0 : Int)).getD n 0 = 0 := by
 rw [List.getD_eq_getElem?_getD, List.getElem?_replicate]
 split <;> rfl
def ObV.at_ (o : ObV) (st : Int) : ObV := { o with st := st }
structure Two (kk : Nat) (T : TypeId) (w0 r0 : Int) (K : Kind) (o o' : ObV) (ini ws ws' : List Int) : Prop where
 kind : KindOK kk T w0 r0 K
 w : wOp o.k = w0
 r : rOp o.k = r0
 right : RightO kk o
 right' : RightO kk o'
 lay : LayO o.k o.w o.s o.c o.st o.ia o.il o.ic o.wr o.ra o.rl o.rc ini ws
 lay' : LayO o'.k o'.w o'.s o'.c o'.st o'.ia o'.il o'.ic o'.wr o'.ra o'.rl o'.rc ini ws'
 same : ∀ (ps : List Pr) (ts : List Int) (mv mv' : Value), Good kk w0 r0 K o mv (lo0 ws ps) ts -> Good kk w0 r0 K o' mv' (lo0 ws' ps) ts -> (turnsM K mv' (frO o') (lo0 ws' ps) ts).cs = (turnsM K mv (frO o) (lo0 ws ps) ts).cs
end Go.Proofs.YtphfnjcboellhaaGreatDoor.wv
