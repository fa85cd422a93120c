import Derived.Test.YtphfnjcboellhaaGreatDoorWvRun
import Derived.Test.YtphfnjcboellhaaGreatDoorObj
import Derived.Test.YtphfnjcboellhaaGreatDoorCaseA
namespace Go.Proofs.YtphfnjcboellhaaGreatDoor.wv
open Go Go.RowKit kit obj mem core
def workO (K : Kind) : Option (Core × List Int) -> Nat
 | none => 0
 | some q => (K.left q.1).toNat
def workP (K : Kind) (B : Nat) (p : PM) : Nat := workO K p.o + B * p.left.length
def workAt (K : Kind) (B : Nat) (L : Lo) (k : Nat) : Nat := match L.ps[k]? with
 | none => 0
 | some p => workP K B p
def drainM (K : Kind) (mv : Value) (fr : Int -> Int -> Core) : Nat -> Lo -> Nat -> Lo
 | 0, L, _ => L
 | n + 1, L, k => match turnM K mv fr L (k : Int) with
  | (L', true) => drainM K mv fr n L' k
  | (L', false) => L'
def finM (K : Kind) (mv : Value) (fr : Int -> Int -> Core) (n : Nat) (L : Lo) (m : Nat) : Lo := (List.range m).foldl (fun L k => drainM K mv fr n L k) L
theorem finM_succ (K : Kind) (mv : Value) (fr : Int -> Int -> Core) (n : Nat) (L : Lo) (m : Nat) : finM K mv fr n L (m + 1) = drainM K mv fr n (finM K mv fr n L m) m := by
 unfold finM
 rw [List.range_succ, List.foldl_append]
 rfl
section
variable {kk : Nat} {w0 r0 : Int} {K : Kind} {o : ObV} {L L' : Lo} {mv : Value} {B : Nat}
theorem turnM_false {fr : Int -> Int -> Core} {k : Int} (h : (turnM K mv fr L k).2 = false) : (turnM K mv fr L k).1 = L := by
 unfold turnM at h ⊢
 split
 · rfl
 · rename_i hk
   rw [if_neg hk] at h
   split
   · rfl
   · rename_i p hp
     rw [hp] at h
     split
     · rfl
     · rename_i p' cs hb
       simp only [hb] at h
       cases h
theorem beginM_o {fr : Int -> Int -> Core} {k : Nat} {p p' : PM} {cs : List Cl} (h : beginM fr k L p = some (p', cs)) : (p.over = false /\ p' = p /\ cs = L.cs) \/ (∃ t l, p.over = true /\ p.left = t :: l /\ p' = ⟨l, some (fr t.op (max ((k : Int) - 1) 0), t.wds), L.cs.length⟩ /\ cs = L.cs ++ [⟨k, 0, t.op, t.wds, 0, L.now, -1⟩]) := by
 unfold beginM at h
 split at h
 · rename_i ho
   injection h with h
   injection h with h1 h2
   exact .inl ⟨ho, h1.symm, h2.symm⟩
 · rename_i ho
   match hl : p.left, h with
   | [], h => cases h
   | t :: l, h =>
    injection h with h
    injection h with h1 h2
    exact .inr ⟨t, l, by simpa using ho, rfl, h1.symm, h2.symm⟩
theorem turnM_made {k : Int} (hw : WF kk w0 r0 K o L) (h : (turnM K mv (frO o) L k).2 = true) : ∃ (j : Nat) (p p' : PM) (cs : List Cl) (x : Core) (r : List Int), k = j /\ L.ps[j]? = some p /\ beginM (frO o) j L p = some (p', cs) /\ p'.o = some (x, r) /\ x.over = false /\ K.Shape x r /\ (turnM K mv (frO o) L k).1 = stepM K mv j L p' cs := by
 unfold turnM at h ⊢
 split at h
 · cases h
 · rename_i hk
   rw [if_neg hk]
   split at h
   · cases h
   · rename_i p hp
     split at h
     · cases h
     · rename_i p' cs hb
       simp only [hb]
       obtain ⟨c, r, h1, h2, h3, -⟩ := (beginM_wb hw hp hb (frO_over o)).op
       exact ⟨k.toNat, p, p', cs, c, r, by omega, hp, hb, h1, h2, h3, rfl⟩
theorem step_left (hws : ∀ z ∈ L.ws, 0 <= z /\ z <= 4294967295) {x : Core} {r : List Int} (hs : K.Shape x r) (ho : x.over = false) : (K.left (K.step x mv r L.ws).1).toNat + 1 <= (K.left x).toNat := by
 obtain ⟨_, h2, _⟩ := K.ok mv hs ho hws
 have := K.pos hs ho
 omega
theorem turnM_work {k : Int} (hw : WF kk w0 r0 K o L) (hws : ∀ z ∈ L.ws, 0 <= z /\ z <= 4294967295) (hB : ∀ op rd, K.left (frO o op rd) <= B) (h : (turnM K mv (frO o) L k).2 = true) : workAt K B (turnM K mv (frO o) L k).1 k.toNat + 1 <= workAt K B L k.toNat /\ (turnM K mv (frO o) L k).1.now = L.now + 1 /\ ∀ j, j ≠ k.toNat -> workAt K B (turnM K mv (frO o) L k).1 j = workAt K B L j := by
 obtain ⟨j, p, p', cs, x, r, rfl, hp, hb, ho, hov, hs, he⟩ := turnM_made hw h
 rw [he]
 have hl := step_left (mv := mv) hws hs hov
 unfold stepM
 rw [ho]
 refine ⟨?_, rfl, fun i hi => ?_⟩
 · unfold workAt
   rw [Int.toNat_natCast]
   simp only [hp]
   rw [List.getElem?_set, if_pos rfl, if_pos (List.getElem?_eq_some_iff.1 hp).1]
   show (K.left (K.step x mv r L.ws).1).toNat + B * p'.left.length + 1 <= workO K p.o + B * p.left.length
   rcases beginM_o hb with ⟨h1, rfl, -⟩ | ⟨t, l, h1, h2, rfl, -⟩
   · rw [ho]
     show _ <= (K.left x).toNat + _
     omega
   · injection ho with ho
     injection ho with e1 e2
     have h3 := hB t.op (max ((j : Int) - 1) 0)
     rw [h2, List.length_cons, Nat.mul_add, Nat.mul_one]
     rw [<- e1] at hl
     have h4 : (K.left (frO o t.op (max ((j : Int) - 1) 0))).toNat <= B := by omega
     rw [<- e1]
     show _ + B * l.length + 1 <= _
     omega
 · unfold workAt
   rw [Int.toNat_natCast] at hi
   show (match (L.ps.set j _)[i]? with | none => 0 | some p => workP K B p) = _
   rw [List.getElem?_set, if_neg (fun e => hi e.symm)]
theorem turnM_work_le {k : Int} (hw : WF kk w0 r0 K o L) (hws : ∀ z ∈ L.ws, 0 <= z /\ z <= 4294967295) (hB : ∀ op rd, K.left (frO o op rd) <= B) (j : Nat) : workAt K B (turnM K mv (frO o) L k).1 j <= workAt K B L j := by
 cases h : (turnM K mv (frO o) L k).2 with
 | false => rw [turnM_false h]; exact Nat.le_refl _
 | true =>
  obtain ⟨h1, -, h2⟩ := turnM_work hw hws hB h
  by_cases hj : j = k.toNat
  · subst hj; omega
  · rw [h2 j hj]; exact Nat.le_refl _
theorem Good.work {L : Lo} {ts : List Int} (h : Good kk w0 r0 K o mv L ts) (hB : ∀ op rd, K.left (frO o op rd) <= B) (k : Nat) : workAt K B (turnsM K mv (frO o) L ts) k <= workAt K B L k := by
 have hj : ∀ j, j <= ts.length -> workAt K B (turnsM K mv (frO o) L (ts.take j)) k <= workAt K B L k := by
  intro j
  induction j with
  | zero => intro _; exact Nat.le_refl _
  | succ j ih =>
   intro hj
   obtain ⟨t, ht⟩ : ∃ t, ts[j]? = some t := ⟨_, List.getElem?_eq_getElem hj⟩
   rw [show ts.take (j + 1) = ts.take j ++ [t] by rw [List.take_add_one, ht]; rfl, turnsM_snoc]
   obtain ⟨h1, h2, -⟩ := h j (by omega)
   exact Nat.le_trans (turnM_work_le h1 h2.ws hB k) (ih (by omega))
 have := hj ts.length (Nat.le_refl _)
 rwa [List.take_length] at this
theorem work_lo0 (ws : List Int) (ps : List Pr) (k : Nat) {N : Nat} (h : ∀ p ∈ ps, B * p.l.length <= N) : workAt K B (lo0 ws ps) k <= N := by
 unfold workAt
 split
 · exact Nat.zero_le _
 · rename_i p hp
   simp only [lo0, List.getElem?_map, Option.map_eq_some_iff] at hp
   obtain ⟨q, e1, rfl⟩ := hp
   have := h q (List.mem_of_getElem? e1)
   show 0 + B * q.l.length <= N
   omega
theorem turnM_idle {k : Nat} {p : PM} (hp : L.ps[k]? = some p) {fr : Int -> Int -> Core} (h : (turnM K mv fr L (k : Int)).2 = false) : p.over = true /\ p.left = [] := by
 unfold turnM at h
 rw [if_neg (by omega), Int.toNat_natCast] at h
 simp only [hp] at h
 unfold beginM at h
 by_cases ho : p.over = false
 · simp only [if_pos ho] at h
   cases h
 · simp only [if_neg ho] at h
   match hl : p.left with
   | [] => exact ⟨by simpa using ho, rfl⟩
   | t :: l => simp only [hl] at h; cases h
theorem turnM_other {fr : Int -> Int -> Core} {k : Int} {j : Nat} (hj : (j : Int) ≠ k) : (turnM K mv fr L k).1.ps[j]? = L.ps[j]? := by
 unfold turnM
 split
 · rfl
 · rename_i hk
   split
   · rfl
   · split
     · rfl
     · unfold stepM
       split
       · rfl
       · show (L.ps.set k.toNat _)[j]? = _
         rw [List.getElem?_set, if_neg (by omega)]
end
set_option maxRecDepth 20000
structure Fin (kk : Nat) (w0 r0 : Int) (K : Kind) (o : ObV) (mv : Value) (ws : List Int) (ps : List Pr) (ts : List Int) (L : Lo) : Prop where
 eq : L = finM K mv (frO o) 9000 (turnsM K mv (frO o) (lo0 ws ps) ts) ps.length
 run : ∃ ds, ds.length <= 50000 /\ L = turnsM K mv (frO o) (lo0 ws ps) (ts ++ ds) /\ Good kk w0 r0 K o mv (lo0 ws ps) (ts ++ ds)
 done : ∀ (k : Nat) p, L.ps[k]? = some p -> p.over = true /\ p.left = []
def nowOf (lb : Nat) (w : World) : Nat := match w.cell? ⟨lb, 11, none⟩ with
 | some v => (intOf v).toNat
 | none => 0
theorem LoomAt.nowOf {kk : Nat} {T : TypeId} {W V : World} {o : ObV} {L : Lo} {z : LV} (h : LoomAt kk T W V o L z) : nowOf z.lb V = L.now := by
 unfold wv.nowOf
 rw [h.box.cell (o := 11) rfl]
 exact Int.toNat_natCast _
theorem turnsM_plen (K : Kind) (mv : Value) (fr : Int -> Int -> Core) (ts : List Int) (L : Lo) : (turnsM K mv fr L ts).ps.length = L.ps.length := by
 induction ts generalizing L with
 | nil => rfl
 | cons t ts ih =>
  show (turnsM K mv fr (turnM K mv fr L t).1 ts).ps.length = _
  rw [ih]
  unfold turnM
  split
  · rfl
  · split
    · rfl
    · split
      · rfl
      · unfold stepM
        split
        · rfl
        · exact List.length_set
theorem drainM_true {K : Kind} {mv : Value} {fr : Int -> Int -> Core} {L : Lo} {k : Nat} (h : (turnM K mv fr L (k : Int)).2 = true) (n : Nat) : drainM K mv fr (n + 1) L k = drainM K mv fr n (turnM K mv fr L (k : Int)).1 k := by
 show (match turnM K mv fr L (k : Int) with
  | (L', true) => drainM K mv fr n L' k
  | (L', false) => L') = _
 obtain ⟨q, hq⟩ : ∃ q, turnM K mv fr L (k : Int) = q := ⟨_, rfl⟩
 rw [hq] at h ⊢
 obtain ⟨a, b⟩ := q
 simp only at h
 subst h
 rfl
theorem drainM_false {K : Kind} {mv : Value} {fr : Int -> Int -> Core} {L : Lo} {k : Nat} (h : (turnM K mv fr L (k : Int)).2 = false) (n : Nat) : drainM K mv fr n L k = L := by
 cases n with
 | zero => rfl
 | succ n =>
  have h2 := turnM_false h
  show (match turnM K mv fr L (k : Int) with
   | (L', true) => drainM K mv fr n L' k
   | (L', false) => L') = _
  obtain ⟨q, hq⟩ : ∃ q, turnM K mv fr L (k : Int) = q := ⟨_, rfl⟩
  rw [hq] at h h2 ⊢
  obtain ⟨a, b⟩ := q
  simp only at h h2
  subst h h2
  rfl
set_option maxHeartbeats 8000000 in
theorem Finish_ok {kk : Nat} {T : TypeId} {w0 r0 : Int} {K : Kind} {o : ObV} {ini ws : List Int} {ps : List Pr} {pa : Option Addr} {pc : Nat} {ts : List Int} {qa : Option Addr} {qc : Nat} {W : World} (D : KindOK kk T w0 r0 K) (h : Inp kk w0 r0 o ini ws ps pa pc ts qa qc W) {B : Nat} (hB : ∀ op rd, K.left (frO o op rd) <= B) (hN : ∀ p ∈ ps, B * p.l.length <= 9000) :
 Calls Tryz.prog 11 #[.agg o.cells.toArray, .slice pa ps.length pc, .slice qa ts.length qc] W fun e V => ∃ mv a c rvs L, e = .returned (.tuple #[.slice a L.cs.length c, .int .i64 0]) /\ CallsR V (.slice a L.cs.length c) L.cs rvs /\ Fin kk w0 r0 K o mv ws ps ts L /\ Chg [] W V := by
 have HCA : Hid (Chg [] W (W.alloc (.cells #[.int .i64 o.k, .int .i64 o.w, .int .i64 o.s, .int .i64 o.c, .int .u32 o.st, .slice o.ia o.il o.ic, .int .i64 o.wr, .slice o.ra o.rl o.rc] 26))) := hid ((Chg.refl _ _).alloc _)
 have HR := hid (Inp.run D (h.chg HCA.out))
 have htl := h.tl
 have hn5 : ps.length <= 5 := by have := rightB_bd h.right.2.2; have := h.len; omega
 have HTL := hid (⟨htl, hn5⟩ : _ /\ _)
 have HTA := hid (h.chg HCA.out).tab
 have HD := hid (⟨D, hB, hN⟩ : _ /\ _ /\ _)
 clear htl h hn5 D hB hN
 show Calls Tryz.prog 11 #[.agg #[.int .i64 o.k, .int .i64 o.w, .int .i64 o.s, .int .i64 o.c, .int .u32 o.st, .slice o.ia o.il o.ic, .int .i64 o.wr, .slice o.ra o.rl o.rc], .slice pa ps.length pc, .slice qa ts.length qc] W _
 go_enter Tryz.func11, Tryz.ntmps11
 go_wp2_with (go_at_call 19; refine HR.out.mono ?_; rintro e w1 ⟨z0, rfl, hz, hg, hn⟩; have HZ := hid (⟨hz, hg, hn⟩ : _ /\ _ /\ _); clear hz hg hn)
 obtain ⟨W1, hW1⟩ : ∃ y, W.alloc (.cells #[.int .i64 o.k, .int .i64 o.w, .int .i64 o.s, .int .i64 o.c, .int .u32 o.st, .slice o.ia o.il o.ic, .int .i64 o.wr, .slice o.ra o.rl o.rc] 26) = y := ⟨_, rfl⟩
 rw [hW1] at HCA HTA HZ
 clear HR hW1
 obtain ⟨lb, hlb⟩ : ∃ y, z0.lb = y := ⟨_, rfl⟩
 obtain ⟨mb, hmb⟩ : ∃ y, z0.mb = y := ⟨_, rfl⟩
 have HLM := hid (⟨hlb, hmb⟩ : _ /\ _)
 obtain ⟨mv, hmv⟩ : ∃ y : Value, .pointer (some ⟨mb, 0, none⟩) = y := ⟨_, rfl⟩
 have HMV := hid hmv
 rw [hmb, hmv] at HZ
 rw [hlb]
 clear hlb hmb hmv
 go_loopw [23] (fun i wr => ∃ (k : Nat) (z : LV) (ds : List Int), k <= ps.length /\ i = .int .i64 (k : Int) /\ Hid (LoomAt kk T W1 wr o (turnsM K mv (frO o) (lo0 ws ps) (ts ++ ds)) z /\ z.lb = lb /\ z.mb = mb /\ Good kk w0 r0 K o mv (lo0 ws ps) (ts ++ ds) /\ 0 <= z.nm /\ z.nm <= (ts ++ ds).length) /\ Hid (ds.length <= 9001 * k /\ turnsM K mv (frO o) (lo0 ws ps) (ts ++ ds) = finM K mv (frO o) 9000 (turnsM K mv (frO o) (lo0 ws ps) ts) k /\ ∀ (j : Nat) p, j < k -> (turnsM K mv (frO o) (lo0 ws ps) (ts ++ ds)).ps[j]? = some p -> p.over = true /\ p.left = [])) (fun i _ => ps.length - (intOf i).toNat)
 case atStart => exact ⟨0, z0, [], Nat.zero_le _, rfl, hid (by rw [List.append_nil]; exact ⟨HZ.out.1, HLM.out.1, HLM.out.2, HZ.out.2.1, HZ.out.2.2⟩), hid ⟨Nat.le_refl _, by rw [List.append_nil]; rfl, fun j p hj => by omega⟩⟩
 case round =>
  clear HZ
  obtain ⟨k, z, ds, hk, rfl, HZ, HQ⟩ := hrel
  by_cases hlt : k < ps.length
  · have HLT := hid hlt
    have hj5 : (k : Int) < 5 := by have := HTL.out.2; omega
    have k8 : IntKind.i64.wrap ((k : Int) + 1) = (k : Int) + 1 := by rw [IntKind.wrap_i64]; omega
    clear hk
    go_wp2_with fail
    go_loopw [] (fun wr2 => ∃ (z : LV) (ds : List Int) (f : Nat), Hid (LoomAt kk T W1 wr2 o (turnsM K mv (frO o) (lo0 ws ps) (ts ++ ds)) z /\ z.lb = lb /\ z.mb = mb /\ Good kk w0 r0 K o mv (lo0 ws ps) (ts ++ ds) /\ 0 <= z.nm /\ z.nm <= (ts ++ ds).length) /\ Hid (ds.length + f <= 9001 * k + 9000 /\ drainM K mv (frO o) f (turnsM K mv (frO o) (lo0 ws ps) (ts ++ ds)) k = finM K mv (frO o) 9000 (turnsM K mv (frO o) (lo0 ws ps) ts) (k + 1) /\ workAt K B (turnsM K mv (frO o) (lo0 ws ps) (ts ++ ds)) k <= f /\ ∀ (j : Nat) p, j < k -> (turnsM K mv (frO o) (lo0 ws ps) (ts ++ ds)).ps[j]? = some p -> p.over = true /\ p.left = [])) (fun wr2 => 60000 - nowOf lb wr2)
    case atStart => exact ⟨z, ds, 9000, HZ, hid ⟨by have := HQ.out.1; omega, by rw [finM_succ, ← HQ.out.2.1], Nat.le_trans (HZ.out.2.2.2.1.work HD.out.2.1 k) (work_lo0 ws ps k HD.out.2.2), HQ.out.2.2⟩⟩
    case round =>
     clear HZ HQ z ds
     obtain ⟨z2, ds2, f, HZ2, HQ2⟩ := hrel
     have hlen : (ts ++ ds2).length = ts.length + ds2.length := List.length_append
     have hnow := turnsM_now K mv (frO o) (ts ++ ds2) (lo0 ws ps)
     have h0 : (lo0 ws ps).now = 0 := rfl
     have hbd : ds2.length + f <= 9001 * k + 9000 := HQ2.out.1
     have htl := HTL.out
     have htn := turn_any HD.out.1.ops HD.out.1.ty HZ2.out.1 HTA.out HZ2.out.2.2.2.1.last.1 (by omega) ⟨HZ2.out.2.2.2.2.1, by have := HZ2.out.2.2.2.2.2; omega⟩ (k : Int)
     rw [HZ2.out.2.1, HZ2.out.2.2.1, HMV.out] at htn
     have hap : ts ++ (ds2 ++ [(k : Int)]) = (ts ++ ds2) ++ [(k : Int)] := (List.append_assoc _ _ _).symm
     have hL' : turnsM K mv (frO o) (lo0 ws ps) (ts ++ (ds2 ++ [(k : Int)])) = (turnM K mv (frO o) (turnsM K mv (frO o) (lo0 ws ps) (ts ++ ds2)) (k : Int)).1 := by rw [hap, turnsM_snoc]
     have HAP := hid (⟨hap, hL', hlen, hnow, h0, hbd⟩ : _ /\ _ /\ _ /\ _ /\ _ /\ _)
     clear hlen hnow h0 hbd htl hap hL'
     cases hb : (turnM K mv (frO o) (turnsM K mv (frO o) (lo0 ws ps) (ts ++ ds2)) (k : Int)).2 with
     | true =>
      rw [hb] at htn
      have HTN := hid htn
      have HBB := hid hb
      clear hb htn
      go_wp2_with (go_at_call 22; refine HTN.out.mono ?_; rintro e w12 ⟨rfl, z', hz', e1, e2, e3, e4, e5⟩; have HZ' := hid (⟨hz', e1, e2, e3, e4, e5⟩ : _ /\ _ /\ _ /\ _ /\ _ /\ _); clear hz' e1 e2 e3 e4 e5)
      obtain ⟨hw1, hw2, hw3⟩ := turnM_work HZ2.out.2.2.2.1.last.1 HZ2.out.2.2.2.1.last.2.1.ws HD.out.2.1 HBB.out
      rw [Int.toNat_natCast] at hw1
      have hf := HQ2.out.2.2.1
      obtain ⟨f', rfl⟩ : ∃ f', f = f' + 1 := ⟨f - 1, by omega⟩
      obtain ⟨a1, a2, a3, a4, a5, a6⟩ := HAP.out
      go_roundw
      case rel =>
       refine ⟨z', ds2 ++ [(k : Int)], f', hid ?_, hid ⟨by rw [List.length_append, List.length_singleton]; omega, ?_, ?_, fun j p hj hp => ?_⟩⟩
       · rw [a2]
         refine ⟨HZ'.out.1, HZ'.out.2.1, HZ'.out.2.2.1, ?_, by have := HZ2.out.2.2.2.2.1; have := HZ'.out.2.2.2.2.1; omega, ?_⟩
         · rw [a1]
           refine HZ2.out.2.2.2.1.snoc ?_
           rw [turnsM_snoc]
           exact HZ'.out.1.fine
         · rw [a1, List.length_append, List.length_singleton]
           have := HZ2.out.2.2.2.2.2; have := HZ'.out.2.2.2.2.2; omega
       · rw [a2, ← drainM_true HBB.out]
         exact HQ2.out.2.1
       · rw [a2]; omega
       · rw [a2, turnM_other (by omega)] at hp
         exact HQ2.out.2.2.2 j p hj hp
      case measure =>
       have h1 := HZ'.out.1.nowOf
       have h2 := HZ2.out.1.nowOf
       rw [HZ'.out.2.1] at h1
       rw [HZ2.out.2.1] at h2
       rw [h1, h2, hw2]
       have := HTL.out
       omega
     | false =>
      rw [hb] at htn
      have HTN := hid htn
      have HBB := hid hb
      clear hb htn
      go_wp2_with (go_at_call 22; refine HTN.out.mono ?_; rintro e w12 ⟨rfl, z', hz', e1, e2, e3, e4, e5⟩; have HZ' := hid (⟨hz', e1, e2, e3, e4, e5⟩ : _ /\ _ /\ _ /\ _ /\ _ /\ _); clear hz' e1 e2 e3 e4 e5)
      obtain ⟨a1, a2, a3, a4, a5, a6⟩ := HAP.out
      have hsame := turnM_false HBB.out
      have hltk := HLT.out
      go_roundw
      case rel =>
       refine ⟨k + 1, z', ds2 ++ [(k : Int)], by omega, by go_num, hid ?_, hid ⟨by rw [List.length_append, List.length_singleton]; omega, ?_, fun j p hj hp => ?_⟩⟩
       · rw [a2]
         refine ⟨HZ'.out.1, HZ'.out.2.1, HZ'.out.2.2.1, ?_, by have := HZ2.out.2.2.2.2.1; have := HZ'.out.2.2.2.2.1; omega, ?_⟩
         · rw [a1]
           refine HZ2.out.2.2.2.1.snoc ?_
           rw [turnsM_snoc]
           exact HZ'.out.1.fine
         · rw [a1, List.length_append, List.length_singleton]
           have := HZ2.out.2.2.2.2.2; have := HZ'.out.2.2.2.2.2; omega
       · rw [a2, hsame]
         have h1 := HQ2.out.2.1
         rwa [drainM_false HBB.out] at h1
       · rw [a2, hsame] at hp
         rcases Nat.lt_or_ge j k with h1 | h1
         · exact HQ2.out.2.2.2 j p h1 hp
         · obtain rfl : j = k := by omega
           exact turnM_idle hp HBB.out
      case measure =>
       simp [intOf]
       omega
  · obtain rfl : ps.length = k := by omega
    clear hlt hk
    obtain ⟨L, hL⟩ : ∃ y, turnsM K mv (frO o) (lo0 ws ps) (ts ++ ds) = y := ⟨_, rfl⟩
    obtain ⟨n, hn⟩ : ∃ y, L.cs.length = y := ⟨_, rfl⟩
    have hnow := turnsM_now K mv (frO o) (ts ++ ds) (lo0 ws ps)
    have hgd := HZ.out.2.2.2.1
    have hcs := hgd.last
    have hqq := HQ.out
    rw [hL] at HZ hnow hcs hqq
    have hcr := HZ.out.1.callsR
    have hbx := HZ.out.1.box
    rw [hn] at hcr hbx
    rw [HZ.out.2.1] at hbx
    have c10 : wr.cell? ⟨lb, 10, none⟩ = some (.slice z.ca n z.cc) := hbx.cell (o := 10) rfl
    have HF := hid (⟨hL, hn, hnow, hgd, hcs, hqq, hcr⟩ : _ /\ _ /\ _ /\ _ /\ _ /\ _ /\ _)
    clear hL hn hnow hgd hcs hqq hcr hbx
    go_wp2_with (go_at_call 20; obtain ⟨hL, hn, hnow, hgd, hcs, hqq, hcr⟩ := HF.out; refine (Sort_any _ _ _ _ hcr hcs.2.2.inc (by have h3 := hcs.1.cs; have h4 := hnow.2; have h5 : (lo0 ws ps).now = 0 := rfl; have h6 := HTL.out; have h7 := hqq.1; have h8 : (ts ++ ds).length = ts.length + ds.length := List.length_append; omega) hcs.2.2.wds).mono ?_; rintro e w2 ⟨a, c, rvs, rfl, hcr2, hc⟩; have HCR := hid (⟨hcr2, hc⟩ : _ /\ _); clear hL hn hnow hgd hcs hqq hcr hcr2 hc)
    refine bodyPost_ret (results_tmp2 rfl _ _ _) rfl ?_
    obtain ⟨hL, hn, hnow, hgd, hcs, hqq, hcr⟩ := HF.out
    refine ⟨mv, a, c, rvs, L, rfl, HCR.out.1, ⟨hqq.2.1, ⟨ds, by have := hqq.1; have := HTL.out.2; omega, hL.symm, hgd⟩, fun j p hp => ?_⟩, HCA.out.trans (HZ.out.1.chg.trans HCR.out.2)⟩
    refine hqq.2.2 j p ?_ hp
    have h1 := (List.getElem?_eq_some_iff.1 hp).1
    rw [<- hL, turnsM_plen] at h1
    simpa [lo0] using h1
def SmallP (ps : List Pr) : Prop := ∀ p ∈ ps, p.l.length <= 20 /\ ∀ t ∈ p.l, t.wds.length <= 100
def Says (e : Ending) (P : Prop) : Prop := ∃ b, e = .returned (.bool b) /\ (b = true -> P)
set_option maxHeartbeats 4000000 in
theorem Light_any (k w s c st : Int) (ia : Option Addr) (il ic : Nat) (wri : Int) (ra : Option Addr) (rl rc : Nat) {ps : List Pr} {pa : Option Addr} {pc : Nat} (qa : Option Addr) (ql qc : Nat) {W : World} (hP : ProcsR W (.slice pa ps.length pc) ps) :
 Calls Tryz.prog 5 #[.agg #[.int .i64 k, .int .i64 w, .int .i64 s, .int .i64 c, .int .u32 st, .slice ia il ic, .int .i64 wri, .slice ra rl rc, .slice pa ps.length pc, .slice qa ql qc]] W fun e W' => Says e ((il <= 100 /\ rl <= 100) /\ ps.length <= 20 /\ ql <= 400 /\ SmallP ps) /\ Chg [] W W' := by
 have HBX : Hid (Blk (W.alloc (.cells #[.int .i64 k, .int .i64 w, .int .i64 s, .int .i64 c, .int .u32 st, .slice ia il ic, .int .i64 wri, .slice ra rl rc, .slice pa ps.length pc, .slice qa ql qc] 29)) W.heap.size #[.int .i64 k, .int .i64 w, .int .i64 s, .int .i64 c, .int .u32 st, .slice ia il ic, .int .i64 wri, .slice ra rl rc, .slice pa ps.length pc, .slice qa ql qc] 29) := hid (Blk.new W _ _)
 obtain ⟨b1, o1, hx1, hc1, -⟩ := reads_index (P := Tryz.prog) Tryz.underlying27 szTodos hP.row
 have HX1 := hid hx1
 have HC1 := hid hc1
 have HP := hid hP
 clear hx1 hc1 hP
 obtain ⟨n, hn⟩ : ∃ z, ps.length = z := ⟨_, rfl⟩
 have HN := hid hn
 rw [hn] at HX1 HBX ⊢
 clear hn
 by_cases h1 : il <= 100 /\ rl <= 100
 rotate_left
 · have HS := hid (fun V => small_any k w s c st ia il ic wri ra rl rc V)
   rw [decide_eq_false h1] at HS
   clear h1
   go_enter Tryz.func5, Tryz.ntmps5
   go_wp2_with (go_at_call 15; refine (HS.out _).mono ?_; rintro e w1 ⟨rfl, hc⟩; have HC := hid (((Chg.refl [] W).alloc _).trans hc); clear hc)
   go_ret
   exact ⟨⟨false, rfl, by simp⟩, HC.out⟩
 have HS := hid (fun V => small_any k w s c st ia il ic wri ra rl rc V)
 rw [decide_eq_true h1] at HS
 have H1 := hid h1
 clear h1
 by_cases h2 : (20 : Int) < (n : Int)
 · go_enter Tryz.func5, Tryz.ntmps5
   go_wp2_with (go_at_call 15; refine (HS.out _).mono ?_; rintro e w1 ⟨rfl, hc⟩; have HC := hid (((Chg.refl [] W).alloc _).trans hc); have e8 : w1.cell? ⟨W.heap.size, 8, none⟩ = some (.slice pa n pc) := (HBX.out.keep hc (by simp)).cell rfl; clear hc)
   go_ret
   exact ⟨⟨false, rfl, by simp⟩, HC.out⟩
 have H2 := hid h2
 by_cases h3 : (400 : Int) < (ql : Int)
 · go_enter Tryz.func5, Tryz.ntmps5
   go_wp2_with (go_at_call 15; refine (HS.out _).mono ?_; rintro e w1 ⟨rfl, hc⟩; have HC := hid (((Chg.refl [] W).alloc _).trans hc); have e8 : w1.cell? ⟨W.heap.size, 8, none⟩ = some (.slice pa n pc) := (HBX.out.keep hc (by simp)).cell rfl; have e9 : w1.cell? ⟨W.heap.size, 9, none⟩ = some (.slice qa ql qc) := (HBX.out.keep hc (by simp)).cell rfl; clear hc)
   go_ret
   exact ⟨⟨false, rfl, by simp⟩, HC.out⟩
 have H3 := hid h3
 go_enter Tryz.func5, Tryz.ntmps5
 go_wp2_with (go_at_call 15; refine (HS.out _).mono ?_; rintro e w1 ⟨rfl, hc⟩; have HC := hid (((Chg.refl [] W).alloc _).trans hc); have e8 : w1.cell? ⟨W.heap.size, 8, none⟩ = some (.slice pa n pc) := (HBX.out.keep hc (by simp)).cell rfl; have e9 : w1.cell? ⟨W.heap.size, 9, none⟩ = some (.slice qa ql qc) := (HBX.out.keep hc (by simp)).cell rfl; clear hc)
 clear h2 h3 e8 e9
 go_loopw [26] (fun i wr => ∃ j : Nat, j <= n /\ i = .int .i64 j /\ Hid (SmallP (ps.take j)) /\ Hid (Chg [] W wr)) (fun i _ => n - (intOf i).toNat)
 case atStart => exact ⟨0, Nat.zero_le _, rfl, hid (fun p hp => by simp at hp), HC⟩
 case round =>
  obtain ⟨j, hj, rfl, HG, HJ⟩ := hrel
  by_cases hlt : j < n
  · have HLT := hid hlt
    have g1 := HX1.out j hlt
    obtain ⟨⟨qa2, qc2, ql2⟩, hp⟩ : ∃ p, ps[j]? = some p := ⟨_, List.getElem?_eq_getElem (by rw [HN.out]; exact hlt)⟩
    have hmem := List.mem_of_getElem? hp
    have HPJ := hid hp
    have q0 := HJ.out.keep (HC1.out (j * 1 + 0) _ (by rw [flatMap_get Pr.cells 1 (fun _ => rfl) ps j 0 (by decide) _ hp]; rfl)) (by simp)
    rw [Nat.add_zero] at q0
    simp only [Pr.val, Nat.mul_one] at q0 g1
    obtain ⟨b2, o2, hx2, hc2, -⟩ := reads_index (P := Tryz.prog) Tryz.underlying41 szTodo ((HP.out.each _ hmem).fresh HJ.out)
    simp only [Pr.val] at hx2
    have HX2 := hid hx2
    have HC2 := hid hc2
    have hj5 : (j : Int) < 20 := by have := H2.out; omega
    have k8 : IntKind.i64.wrap ((j : Int) + 1) = (j : Int) + 1 := by rw [IntKind.wrap_i64]; omega
    clear hx2 hc2 hp hmem
    obtain ⟨m2, hm2⟩ : ∃ z, ql2.length = z := ⟨_, rfl⟩
    have HM2 := hid hm2
    rw [hm2] at q0 HX2
    clear hm2 hj
    by_cases h4 : (20 : Int) < (m2 : Int)
    · go_wp2_with fail
      go_ret
      exact ⟨⟨false, rfl, by simp⟩, HJ.out⟩
    · have H4 := hid h4
      go_wp2_with fail
      clear h4 q0 g1
      go_loopw [35] (fun i wr2 => ∃ m : Nat, m <= m2 /\ i = .int .i64 m /\ Hid (∀ t ∈ ql2.take m, t.wds.length <= 100) /\ Hid (Chg [] wr wr2)) (fun i _ => m2 - (intOf i).toNat)
      case atStart => exact ⟨0, Nat.zero_le _, rfl, hid (fun t ht => by simp at ht), hid (Chg.refl _ _)⟩
      case round =>
       obtain ⟨m, hm, rfl, HG2, HI⟩ := hrel
       by_cases hlt2 : m < m2
       · have HLT2 := hid hlt2
         have g2 := HX2.out m hlt2
         obtain ⟨⟨top, ta, tc, tw⟩, ht⟩ : ∃ t, ql2[m]? = some t := ⟨_, List.getElem?_eq_getElem (by rw [HM2.out]; exact hlt2)⟩
         have HT := hid ht
         have r0 := HI.out.keep (HC2.out (m * 2 + 0) _ (by rw [flatMap_get Td.cells 2 (fun _ => rfl) ql2 m 0 (by decide) _ ht]; rfl)) (by simp)
         have r1 := HI.out.keep (HC2.out (m * 2 + 1) _ (by rw [flatMap_get Td.cells 2 (fun _ => rfl) ql2 m 1 (by decide) _ ht]; rfl)) (by simp)
         rw [Nat.add_zero] at r0
         rw [<- Nat.add_assoc] at r1
         simp only at r0 r1
         have hm1000 : (m : Int) < 20 := by have := H4.out; omega
         have k9 : IntKind.i64.wrap ((m : Int) + 1) = (m : Int) + 1 := by rw [IntKind.wrap_i64]; omega
         clear ht hm
         by_cases h5 : (100 : Int) < (tw.length : Int)
         · go_wp2_with fail
           go_ret
           exact ⟨⟨false, rfl, by simp⟩, (HJ.out.trans HI.out).alloc _⟩
         · have H5 := hid h5
           go_wp2_with fail
           have hltm := HLT2.out
           go_roundw
           case rel =>
            refine ⟨m + 1, by omega, by go_num, hid (fun t ht => ?_), hid (HI.out.alloc _)⟩
            rw [List.take_add_one, HT.out] at ht
            rcases List.mem_append.1 ht with h | h
            · exact HG2.out t h
            · have e := List.mem_singleton.1 h
              subst e
              have := H5.out
              show tw.length <= 100
              omega
           case measure => simp [intOf]; omega
       · obtain rfl : m2 = m := by omega
         clear hlt2 hm
         go_wp2_with fail
         have hltj := HLT.out
         go_roundw
         case rel =>
          refine ⟨j + 1, by omega, by go_num, hid (fun p hp => ?_), hid (HJ.out.trans HI.out)⟩
          rw [List.take_add_one, HPJ.out] at hp
          rcases List.mem_append.1 hp with h | h
          · exact HG.out p h
          · have e := List.mem_singleton.1 h
            subst e
            have h6 := HG2.out
            rw [<- HM2.out, List.take_length] at h6
            exact ⟨by have h7 := H4.out; have h8 := HM2.out; show ql2.length <= 20; omega, h6⟩
         case measure => simp [intOf]; omega
  · obtain rfl : n = j := by omega
    clear hlt hj
    go_wp2_with fail
    go_ret
    refine ⟨⟨true, rfl, fun _ => ⟨H1.out, by have := H2.out; omega, by have := H3.out; omega, ?_⟩⟩, HJ.out⟩
    have h6 := HG.out
    rwa [<- HN.out, List.take_length] at h6
def Tells (e : Ending) (P : Prop) : Prop := ∃ c, e = .returned (.int .i64 c) /\ (c = 0 -> P)
theorem PsFit.snoc {wo ro w : Int} {ps : List Pr} {j : Nat} {p : Pr} (h : PsFit wo ro w (ps.take j)) (hp : ps[j]? = some p) (ht : ∀ t ∈ p.l, TdFit wo ro w j t) : PsFit wo ro w (ps.take (j + 1)) := by
 have hj := (List.getElem?_eq_some_iff.1 hp).1
 have hl : (ps.take j).length = j := by rw [List.length_take]; omega
 intro i q hq t hqt
 rw [List.take_add_one, hp] at hq
 rw [List.getElem?_append] at hq
 split at hq
 · exact h i q hq t hqt
 · rename_i hi
   rw [hl] at hq hi
   have hi1 := (List.getElem?_eq_some_iff.1 hq).1
   simp only [Option.toList_some, List.length_singleton] at hi1
   obtain rfl : i = j := by omega
   rw [Nat.sub_self] at hq
   simp at hq
   subst hq
   exact ht t hqt
set_option maxHeartbeats 8000000 in
theorem RFault_any (k w s c st : Int) (ia : Option Addr) (il ic : Nat) (wri : Int) (ra : Option Addr) (rl rc : Nat) (hO : ObjW k w s c st il rl) (hrl : rl <= 100) {ps : List Pr} {pa : Option Addr} {pc : Nat} {W : World} (hP : ProcsR W (.slice pa ps.length pc) ps) (hn20 : ps.length <= 20) (hsm : SmallP ps) :
 Calls Tryz.prog 6 #[.agg #[.int .i64 k, .int .i64 w, .int .i64 s, .int .i64 c, .int .u32 st, .slice ia il ic, .int .i64 wri, .slice ra rl rc], .slice pa ps.length pc] W fun e W' => Tells e (rightB k w s c st il rl = true /\ ps.length = rl + 1 /\ PsFit (wOp k) (rOp k) w ps) /\ Chg [] W W' := by
 have HBX : Hid (Blk (W.alloc (.cells #[.int .i64 k, .int .i64 w, .int .i64 s, .int .i64 c, .int .u32 st, .slice ia il ic, .int .i64 wri, .slice ra rl rc] 26)) W.heap.size #[.int .i64 k, .int .i64 w, .int .i64 s, .int .i64 c, .int .u32 st, .slice ia il ic, .int .i64 wri, .slice ra rl rc] 26) := hid (Blk.new W _ _)
 have HCA : Hid (Chg [] W (W.alloc (.cells #[.int .i64 k, .int .i64 w, .int .i64 s, .int .i64 c, .int .u32 st, .slice ia il ic, .int .i64 wri, .slice ra rl rc] 26))) := hid ((Chg.refl _ _).alloc _)
 have HRI := hid (fun V => rRight_any k w s c st ia il ic wri ra rl rc hO V)
 have HWR : Hid (∀ V, Calls Tryz.prog 17 #[.int .i64 k] V fun e W' => e = .returned (.int .i64 (wOp k)) /\ W' = V) := hid (fun V => (rWrites_any k V).mono (by rintro e V' ⟨rfl, rfl⟩; exact ⟨rfl, rfl⟩))
 have HRD : Hid (∀ V, Calls Tryz.prog 18 #[.int .i64 k] V fun e W' => e = .returned (.int .i64 (rOp k)) /\ W' = V) := hid (fun V => (rReads_any k V).mono (by rintro e V' ⟨rfl, rfl⟩; exact ⟨rfl, rfl⟩))
 obtain ⟨wo, hwo⟩ : ∃ x, wOp k = x := ⟨_, rfl⟩
 obtain ⟨ro, hro⟩ : ∃ x, rOp k = x := ⟨_, rfl⟩
 obtain ⟨R, hR⟩ : ∃ x, rightB k w s c st il rl = x := ⟨_, rfl⟩
 rw [hwo] at HWR ⊢
 rw [hro] at HRD ⊢
 rw [hR]
 have HRR := hid hR
 simp only [hR] at HRI
 obtain ⟨b1, o1, hx1, hc1, -⟩ := reads_index (P := Tryz.prog) Tryz.underlying27 szTodos hP.row
 have HX1 := hid hx1
 have HC1 := hid hc1
 have HP := hid (⟨hP, hsm⟩ : _ /\ _)
 clear hx1 hc1 hP hR hwo hro hO hsm
 obtain ⟨n, hn⟩ : ∃ z, ps.length = z := ⟨_, rfl⟩
 have HN := hid hn
 rw [hn] at HX1 hn20 ⊢
 have HN20 := hid hn20
 have HRL := hid hrl
 clear hn hn20
 obtain ⟨lim, hlim⟩ : ∃ z, (rl : Int) + 1 = z := ⟨_, rfl⟩
 have k1 : IntKind.i64.wrap ((rl : Int) + 1) = lim := by rw [IntKind.wrap_i64]; omega
 have HLIM := hid hlim
 clear hrl hlim
 cases R with
 | false =>
  go_enter Tryz.func6, Tryz.ntmps6
  go_wp2_with (go_at_call 16; refine (HRI.out _).mono ?_; rintro e w1 ⟨rfl, hc⟩; have HC := hid (HCA.out.trans hc); clear hc)
  go_ret
  exact ⟨⟨1, rfl, by simp⟩, HC.out⟩
 | true =>
  by_cases h1 : (n : Int) = lim
  rotate_left
  · go_enter Tryz.func6, Tryz.ntmps6
    go_wp2_with (go_at_call 16; refine (HRI.out _).mono ?_; rintro e w1 ⟨rfl, hc⟩; have HC := hid (HCA.out.trans hc); have e7 := (HBX.out.keep hc (by simp)).cell (o := 7) rfl; clear hc)
    go_ret
    exact ⟨⟨1, rfl, by simp⟩, HC.out⟩
  rw [<- h1] at k1 HLIM
  clear h1
  go_enter Tryz.func6, Tryz.ntmps6
  go_wp2_with (go_at_call 16; refine (HRI.out _).mono ?_; rintro e w1 ⟨rfl, hc⟩; have HC := hid (HCA.out.trans hc); have HB1 := hid (HBX.out.keep hc (by simp)); have e7 := HB1.out.cell (o := 7) rfl; clear hc)
  clear k1 e7
  go_loopw [23] (fun i wr => ∃ j : Nat, j <= n /\ i = .int .i64 j /\ Hid (PsFit wo ro w (ps.take j)) /\ Hid (Chg [] w1 wr)) (fun i _ => n - (intOf i).toNat)
  case atStart => exact ⟨0, Nat.zero_le _, rfl, hid (fun i p hp => by simp at hp), hid (Chg.refl _ _)⟩
  case round =>
   obtain ⟨j, hj, rfl, HG, HJ⟩ := hrel
   by_cases hlt : j < n
   · have HLT := hid hlt
     have g1 := HX1.out j hlt
     obtain ⟨⟨qa2, qc2, ql2⟩, hp⟩ : ∃ p, ps[j]? = some p := ⟨_, List.getElem?_eq_getElem (by rw [HN.out]; exact hlt)⟩
     have hmem := List.mem_of_getElem? hp
     have HPJ := hid hp
     have q0 := (HC.out.trans HJ.out).keep (HC1.out (j * 1 + 0) _ (by rw [flatMap_get Pr.cells 1 (fun _ => rfl) ps j 0 (by decide) _ hp]; rfl)) (by simp)
     rw [Nat.add_zero] at q0
     simp only [Pr.val, Nat.mul_one] at q0 g1
     obtain ⟨b2, o2, hx2, hc2, -⟩ := reads_index (P := Tryz.prog) Tryz.underlying41 szTodo ((HP.out.1.each _ hmem).fresh (HC.out.trans HJ.out))
     have hl2 : ql2.length <= 20 := (HP.out.2 _ hmem).1
     simp only [Pr.val] at hx2
     have HX2 := hid hx2
     have HC2 := hid hc2
     have hj5 : (j : Int) < 20 := by have := HN20.out; omega
     have k8 : IntKind.i64.wrap ((j : Int) + 1) = (j : Int) + 1 := by rw [IntKind.wrap_i64]; omega
     clear hx2 hc2 hp hmem
     obtain ⟨m2, hm2⟩ : ∃ z, ql2.length = z := ⟨_, rfl⟩
     have HM2 := hid hm2
     rw [hm2] at q0 HX2 hl2
     have HL2 := hid hl2
     clear hm2 hj hl2
     go_wp2_with fail
     clear q0 g1
     go_loopw [30] (fun i wr2 => ∃ m : Nat, m <= m2 /\ i = .int .i64 m /\ Hid (∀ t ∈ ql2.take m, TdFit wo ro w j t) /\ Hid (Chg [] wr wr2)) (fun i _ => m2 - (intOf i).toNat)
     case atStart => exact ⟨0, Nat.zero_le _, rfl, hid (fun t ht => by simp at ht), hid (Chg.refl _ _)⟩
     case round =>
      obtain ⟨m, hm, rfl, HG2, HI⟩ := hrel
      by_cases hlt2 : m < m2
      · have HLT2 := hid hlt2
        have g2 := HX2.out m hlt2
        obtain ⟨⟨top, ta, tc, tw⟩, ht⟩ : ∃ t, ql2[m]? = some t := ⟨_, List.getElem?_eq_getElem (by rw [HM2.out]; exact hlt2)⟩
        have HT := hid ht
        have r0 := HI.out.keep (HC2.out (m * 2 + 0) _ (by rw [flatMap_get Td.cells 2 (fun _ => rfl) ql2 m 0 (by decide) _ ht]; rfl)) (by simp)
        have r1 := HI.out.keep (HC2.out (m * 2 + 1) _ (by rw [flatMap_get Td.cells 2 (fun _ => rfl) ql2 m 1 (by decide) _ ht]; rfl)) (by simp)
        rw [Nat.add_zero] at r0
        rw [<- Nat.add_assoc] at r1
        simp only at r0 r1
        have hm1000 : (m : Int) < 20 := by have := HL2.out; omega
        have k9 : IntKind.i64.wrap ((m : Int) + 1) = (m : Int) + 1 := by rw [IntKind.wrap_i64]; omega
        obtain ⟨tl, htl⟩ : ∃ z, tw.length = z := ⟨_, rfl⟩
        have HTL := hid htl
        rw [htl] at r1
        have HA : Hid (Chg [] w1 (wr.alloc (.cells #[.int .i64 top, .slice ta tl tc] 43))) := hid ((HJ.out.trans HI.out).alloc _)
        have hba : Blk (wr.alloc (.cells #[.int .i64 top, .slice ta tl tc] 43)) wr.heap.size #[.int .i64 top, .slice ta tl tc] 43 := Blk.new _ _ _
        have a0 := (HB1.out.keep HA.out (by simp)).cell (o := 0) rfl
        have a1 := (HB1.out.keep HA.out (by simp)).cell (o := 1) rfl
        have b0 := hba.cell (o := 0) rfl
        have b1' := hba.cell (o := 1) rfl
        clear ht hm htl hba
        by_cases cj : (j : Int) = 0
        · have cj1 : ((j : Int) == 0) = true := by simpa using cj
          have cj2 : decide (0 < j) = false := by simp; omega
          have CJ := hid cj
          clear cj
          by_cases co : top = wo
          · have co1 : (top != wo) = false := by simpa using co
            have CO := hid co
            clear co
            by_cases cl : (tl : Int) = w
            · have cl1 : ((tl : Int) != w) = false := by simpa using cl
              have CL := hid cl
              clear cl
              go_wp2_with fail
              go_quiet (first | (go_at_call 17; refine Calls.quiet_of_same (HWR.out _)) | (go_at_call 18; refine Calls.quiet_of_same (HRD.out _)))
              go_wp2_with fail
              have hltm := HLT2.out
              go_roundw
              case rel =>
               refine ⟨m + 1, by omega, by go_num, hid (fun t ht => ?_), hid ?_⟩
               · rw [List.take_add_one, HT.out] at ht
                 rcases List.mem_append.1 ht with h | h
                 · exact HG2.out t h
                 · have e := List.mem_singleton.1 h
                   subst e
                   exact ⟨fun _ => ⟨CO.out, by rw [show (Td.mk top ta tc tw).wds.length = tl from HTL.out]; exact CL.out⟩, fun h0 => absurd CJ.out (by omega)⟩
               · exact (HI.out.alloc _).drewN _
              case measure => simp [intOf]; omega
            · have cl1 : ((tl : Int) != w) = true := by simpa using cl
              clear cl
              go_wp2_with fail
              go_quiet (first | (go_at_call 17; refine Calls.quiet_of_same (HWR.out _)) | (go_at_call 18; refine Calls.quiet_of_same (HRD.out _)))
              go_wp2_with fail
              go_ret
              exact ⟨⟨4, rfl, by simp⟩, HC.out.trans (HA.out.drewN _)⟩
          · have co1 : (top != wo) = true := by simpa using co
            clear co
            go_wp2_with fail
            go_quiet (first | (go_at_call 17; refine Calls.quiet_of_same (HWR.out _)) | (go_at_call 18; refine Calls.quiet_of_same (HRD.out _)))
            go_wp2_with fail
            go_ret
            exact ⟨⟨9, rfl, by simp⟩, HC.out.trans (HA.out.drewN _)⟩
        · have cj1 : ((j : Int) == 0) = false := by simpa using cj
          have cj2 : decide (0 < j) = true := by simp; omega
          have CJ := hid cj
          clear cj
          by_cases co : top = ro
          · have co1 : (top != ro) = false := by simpa using co
            have CO := hid co
            clear co
            by_cases cl : tl = 0
            · have cl1 : decide (0 < tl) = false := by simp; omega
              have CL := hid cl
              clear cl
              go_wp2_with fail
              go_quiet (first | (go_at_call 17; refine Calls.quiet_of_same (HWR.out _)) | (go_at_call 18; refine Calls.quiet_of_same (HRD.out _)))
              go_wp2_with fail
              have hltm := HLT2.out
              go_roundw
              case rel =>
               refine ⟨m + 1, by omega, by go_num, hid (fun t ht => ?_), hid ?_⟩
               · rw [List.take_add_one, HT.out] at ht
                 rcases List.mem_append.1 ht with h | h
                 · exact HG2.out t h
                 · have e := List.mem_singleton.1 h
                   subst e
                   exact ⟨fun h0 => absurd (by omega) CJ.out, fun _ => ⟨CO.out, List.eq_nil_of_length_eq_zero (HTL.out.trans CL.out)⟩⟩
               · exact (HI.out.alloc _).drewN _
              case measure => simp [intOf]; omega
            · have cl1 : decide (0 < tl) = true := by simp; omega
              clear cl
              go_wp2_with fail
              go_quiet (first | (go_at_call 17; refine Calls.quiet_of_same (HWR.out _)) | (go_at_call 18; refine Calls.quiet_of_same (HRD.out _)))
              go_wp2_with fail
              go_ret
              exact ⟨⟨4, rfl, by simp⟩, HC.out.trans (HA.out.drewN _)⟩
          · have co1 : (top != ro) = true := by simpa using co
            clear co
            go_wp2_with fail
            go_quiet (first | (go_at_call 17; refine Calls.quiet_of_same (HWR.out _)) | (go_at_call 18; refine Calls.quiet_of_same (HRD.out _)))
            go_wp2_with fail
            go_ret
            exact ⟨⟨9, rfl, by simp⟩, HC.out.trans (HA.out.drewN _)⟩
      · obtain rfl : m2 = m := by omega
        clear hlt2 hm
        go_wp2_with fail
        have hltj := HLT.out
        go_roundw
        case rel =>
         refine ⟨j + 1, by omega, by go_num, hid (HG.out.snoc HPJ.out ?_), hid (HJ.out.trans HI.out)⟩
         have h6 := HG2.out
         rw [<- HM2.out, List.take_length] at h6
         exact h6
        case measure => simp [intOf]; omega
   · obtain rfl : n = j := by omega
     clear hlt hj
     go_wp2_with fail
     go_ret
     refine ⟨⟨0, rfl, fun _ => ⟨trivial, by have := HLIM.out; have := HN.out; omega, ?_⟩⟩, HC.out.trans HJ.out⟩
     have h6 := HG.out
     rwa [<- HN.out, List.take_length] at h6
def mvS (k s st x : Int) : Int := if k = 3 then x - x % 2 else if k = 4 then x % (s * 1048576) else if k = 6 then x % (2 * s) else st
def wvO (ra : Option Addr) : ObV := ⟨6, 1, 1, 0, 0, none, 0, 0, 0, ra, 1, 1⟩
def wvPs (a1 a2 a3 : Option Addr) : List Pr := [⟨a1, 1, [⟨3, a2, 1, [7]⟩]⟩, ⟨a3, 1, [⟨4, none, 0, []⟩]⟩]
theorem wv_run (ra a1 a2 a3 : Option Addr) (mv : Value) : (finM fifo.K mv (frO (wvO ra)) 9000 (turnsM fifo.K mv (frO (wvO ra)) (lo0 [0, 0, 0] (wvPs a1 a2 a3)) []) 2).cs = [⟨0, 0, 3, [7], 0, 0, 3⟩, ⟨1, 0, 4, [7], 0, 4, 7⟩] := by
 kernel_rfl
theorem wv_fin {ra a1 a2 a3 : Option Addr} {mv : Value} {L : Lo} (h : Fin 6 3 4 fifo.K (wvO ra) mv [0, 0, 0] (wvPs a1 a2 a3) [] L) : L.cs = [⟨0, 0, 3, [7], 0, 0, 3⟩, ⟨1, 0, 4, [7], 0, 4, 7⟩] := by
 have e1 := h.eq
 have e2 : (wvPs a1 a2 a3).length = 2 := rfl
 rw [e2] at e1
 rw [e1]
 exact wv_run ra a1 a2 a3 mv
theorem reads_blk {V : World} {b : Nat} {cs : Array Value} {T : TypeId} (h : Blk V b cs T) (n size : Nat) (hn : 0 < n) (hm : n <= maxLen) (hs : cs.size = n * size) : Reads V size (.slice (some ⟨b, 0, none⟩) n n) n cs.toList :=
 ⟨by rw [Array.length_toList]; exact hs, hm, .inr ⟨hn, b, 0, n, rfl, Nat.le_refl _, hm, fun i u hu => by rw [Nat.zero_add]; exact h.cell (by rw [<- Array.getElem?_toList]; exact hu)⟩⟩
theorem weaves_inp {V : World} (ht : bitm.Tab V) {b0 b2 b3 b4 b5 : Nat} (h2 : Blk V b2 #[.int .u32 7] 22) (h3 : Blk V b3 #[.int .i64 3, .slice (some ⟨b2, 0, none⟩) 1 1] 43) (h4 : Blk V b4 #[.int .i64 4, .slice none 0 0] 43) (h5 : Blk V b5 #[.slice (some ⟨b3, 0, none⟩) 1 1, .slice (some ⟨b4, 0, none⟩) 1 1] 41) :
 Inp 6 3 4 (wvO (some ⟨b0, 0, none⟩)) [] [0, 0, 0] (wvPs (some ⟨b3, 0, none⟩) (some ⟨b2, 0, none⟩) (some ⟨b4, 0, none⟩)) (some ⟨b5, 0, none⟩) 2 [] none 0 V := by
 have hO : ObjW 6 1 1 0 0 0 1 := ⟨by decide, by decide, by decide, by decide, by decide, by decide, by decide⟩
 have hr : rightB 6 1 1 0 0 ((0 : Nat) : Int) ((1 : Nat) : Int) = true := by decide
 have hlay := layO_fifo 6 1 1 0 0 none 0 0 0 (some ⟨b0, 0, none⟩) 1 1 [] hO rfl hr V (ReadsW.nil V)
 refine ⟨⟨rfl, hO, hr⟩, hlay, ht, ⟨?_, ?_, ?_⟩, rfl, ?_, ?_, ReadsW.nil V, Reads.nil V 1, by decide⟩
 · exact reads_blk h5 2 1 (by decide) (by decide) rfl
 · intro p hp
   rcases List.mem_cons.1 hp with rfl | hp
   · exact reads_blk h3 1 2 (by decide) (by decide) rfl
   · rw [List.mem_singleton.1 hp]
     exact reads_blk h4 1 2 (by decide) (by decide) rfl
 · intro p hp t ht
   rcases List.mem_cons.1 hp with rfl | hp
   · rw [List.mem_singleton.1 ht]
     exact ⟨reads_blk h2 1 1 (by decide) (by decide) rfl, fun n hn => by rw [List.mem_singleton.1 hn]; decide⟩
   · rw [List.mem_singleton.1 hp] at ht
     rw [List.mem_singleton.1 ht]
     exact ReadsW.nil V
 · intro j p hp t ht
   match j, hp with
   | 0, hp =>
    cases hp
    rw [List.mem_singleton.1 ht]
    exact ⟨fun _ => ⟨rfl, rfl⟩, fun h => by omega⟩
   | 1, hp =>
    cases hp
    rw [List.mem_singleton.1 ht]
    exact ⟨fun h => by omega, fun _ => ⟨rfl, rfl⟩⟩
   | j + 2, hp => simp [wvPs] at hp
 · intro p hp
   rcases List.mem_cons.1 hp with rfl | hp
   · show 1 <= 1000; decide
   · rw [List.mem_singleton.1 hp]; show 1 <= 1000; decide
theorem Finish_at {kk : Nat} {T : TypeId} {w0 r0 : Int} {K : Kind} {o : ObV} {ini ws : List Int} {ps : List Pr} {pa : Option Addr} {pc : Nat} {ts : List Int} {qa : Option Addr} {qc : Nat} {W : World} (D : KindOK kk T w0 r0 K) (h : Inp kk w0 r0 o ini ws ps pa pc ts qa qc W) {B : Nat} (hB : ∀ op rd, K.left (frO o op rd) <= B) (hN : ∀ p ∈ ps, B * p.l.length <= 9000) (n m : Nat) (oc : Array Value) (hn : ps.length = n) (hm : ts.length = m) (ho : o.cells.toArray = oc) :
 Calls Tryz.prog 11 #[.agg oc, .slice pa n pc, .slice qa m qc] W fun e V => ∃ mv a c rvs L, e = .returned (.tuple #[.slice a L.cs.length c, .int .i64 0]) /\ CallsR V (.slice a L.cs.length c) L.cs rvs /\ Fin kk w0 r0 K o mv ws ps ts L /\ Chg [] W V := by
 subst hn hm ho
 exact Finish_ok D h hB hN
theorem fifo_left (o : ObV) (h : 1 <= o.w /\ o.w <= 8) (op rd : Int) : fifo.K.left (frO o op rd) <= ((11 : Nat) : Int) := by
 have e : fifo.K.left (frO o op rd) = fifo.left (frO o op rd) := rfl
 rw [e]
 simp [fifo.left, frO, freshC]
 omega
set_option maxHeartbeats 4000000 in
theorem weaves_ok (W : World) (ht : bitm.Tab W) : Calls Tryz.prog 7 #[] W fun e W' => e = .returned (.bool true) /\ Chg [] W W' := by
 obtain ⟨V, hV⟩ : ∃ z, ((((((W.alloc (.cells #[.int .i64 1] 3)).alloc (.cells #[.int .i64 6, .int .i64 1, .int .i64 1, .int .i64 0, .int .u32 0, .slice none 0 0, .int .i64 0, .slice (some ⟨W.heap.size, 0, none⟩) 1 1] 26)).alloc (.cells #[.int .u32 7] 22)).alloc (.cells #[.int .i64 3, .slice (some ⟨W.heap.size + 1 + 1, 0, none⟩) 1 1] 43)).alloc (.cells #[.int .i64 4, .slice none 0 0] 43)).alloc (.cells #[.slice (some ⟨W.heap.size + 1 + 1 + 1, 0, none⟩) 1 1, .slice (some ⟨W.heap.size + 1 + 1 + 1 + 1, 0, none⟩) 1 1] 41)) = z := ⟨_, rfl⟩
 have hc : Chg [] W V := by rw [<- hV]; exact ((((((Chg.refl _ _).alloc _).alloc _).alloc _).alloc _).alloc _).alloc _
 have hi : Inp 6 3 4 (wvO (some ⟨W.heap.size, 0, none⟩)) [] [0, 0, 0] (wvPs (some ⟨W.heap.size + 1 + 1 + 1, 0, none⟩) (some ⟨W.heap.size + 1 + 1, 0, none⟩) (some ⟨W.heap.size + 1 + 1 + 1 + 1, 0, none⟩)) (some ⟨W.heap.size + 1 + 1 + 1 + 1 + 1, 0, none⟩) 2 [] none 0 V := by
  refine weaves_inp (ht.keep hc) ?_ ?_ ?_ ?_
  · rw [<- hV]
    have h := (Blk.new ((W.alloc (.cells #[.int .i64 1] 3)).alloc (.cells #[.int .i64 6, .int .i64 1, .int .i64 1, .int .i64 0, .int .u32 0, .slice none 0 0, .int .i64 0, .slice (some ⟨W.heap.size, 0, none⟩) 1 1] 26)) #[.int .u32 7] 22).keep ((((Chg.refl [] _).alloc (.cells #[.int .i64 3, .slice (some ⟨W.heap.size + 1 + 1, 0, none⟩) 1 1] 43)).alloc (.cells #[.int .i64 4, .slice none 0 0] 43)).alloc (.cells #[.slice (some ⟨W.heap.size + 1 + 1 + 1, 0, none⟩) 1 1, .slice (some ⟨W.heap.size + 1 + 1 + 1 + 1, 0, none⟩) 1 1] 41)) (by simp)
    simp only [World.size_alloc] at h
    exact h
  · rw [<- hV]
    have h := (Blk.new (((W.alloc (.cells #[.int .i64 1] 3)).alloc (.cells #[.int .i64 6, .int .i64 1, .int .i64 1, .int .i64 0, .int .u32 0, .slice none 0 0, .int .i64 0, .slice (some ⟨W.heap.size, 0, none⟩) 1 1] 26)).alloc (.cells #[.int .u32 7] 22)) #[.int .i64 3, .slice (some ⟨W.heap.size + 1 + 1, 0, none⟩) 1 1] 43).keep (((Chg.refl [] _).alloc (.cells #[.int .i64 4, .slice none 0 0] 43)).alloc (.cells #[.slice (some ⟨W.heap.size + 1 + 1 + 1, 0, none⟩) 1 1, .slice (some ⟨W.heap.size + 1 + 1 + 1 + 1, 0, none⟩) 1 1] 41)) (by simp)
    simp only [World.size_alloc] at h
    exact h
  · rw [<- hV]
    have h := (Blk.new ((((W.alloc (.cells #[.int .i64 1] 3)).alloc (.cells #[.int .i64 6, .int .i64 1, .int .i64 1, .int .i64 0, .int .u32 0, .slice none 0 0, .int .i64 0, .slice (some ⟨W.heap.size, 0, none⟩) 1 1] 26)).alloc (.cells #[.int .u32 7] 22)).alloc (.cells #[.int .i64 3, .slice (some ⟨W.heap.size + 1 + 1, 0, none⟩) 1 1] 43)) #[.int .i64 4, .slice none 0 0] 43).keep ((Chg.refl [] _).alloc (.cells #[.slice (some ⟨W.heap.size + 1 + 1 + 1, 0, none⟩) 1 1, .slice (some ⟨W.heap.size + 1 + 1 + 1 + 1, 0, none⟩) 1 1] 41)) (by simp)
    simp only [World.size_alloc] at h
    exact h
  · rw [<- hV]
    have h := Blk.new (((((W.alloc (.cells #[.int .i64 1] 3)).alloc (.cells #[.int .i64 6, .int .i64 1, .int .i64 1, .int .i64 0, .int .u32 0, .slice none 0 0, .int .i64 0, .slice (some ⟨W.heap.size, 0, none⟩) 1 1] 26)).alloc (.cells #[.int .u32 7] 22)).alloc (.cells #[.int .i64 3, .slice (some ⟨W.heap.size + 1 + 1, 0, none⟩) 1 1] 43)).alloc (.cells #[.int .i64 4, .slice none 0 0] 43)) #[.slice (some ⟨W.heap.size + 1 + 1 + 1, 0, none⟩) 1 1, .slice (some ⟨W.heap.size + 1 + 1 + 1 + 1, 0, none⟩) 1 1] 41
    simp only [World.size_alloc] at h
    exact h
 have hN : ∀ p ∈ wvPs (some ⟨W.heap.size + 1 + 1 + 1, 0, none⟩) (some ⟨W.heap.size + 1 + 1, 0, none⟩) (some ⟨W.heap.size + 1 + 1 + 1 + 1, 0, none⟩), 11 * p.l.length <= 9000 := fun p hp => by
  rcases List.mem_cons.1 hp with rfl | hp
  · show 11 * 1 <= 9000; decide
  · rw [List.mem_singleton.1 hp]; show 11 * 1 <= 9000; decide
 have HF := hid (Finish_at kok_fifo hi (B := 11) (fifo_left _ (by show (1 : Int) <= 1 /\ (1 : Int) <= 8; decide)) hN 2 0 #[.int .i64 6, .int .i64 1, .int .i64 1, .int .i64 0, .int .u32 0, .slice none 0 0, .int .i64 0, .slice (some ⟨W.heap.size, 0, none⟩) 1 1] rfl rfl rfl)
 have HC := hid hc
 clear ht hc hi hN
 go_enter Tryz.func7, Tryz.ntmps7
 go_upto_region 3 with (go_at_call 11; (try rw [hV]); refine HF.out.mono ?_; rintro e w1 ⟨mv, a, c, rvs, L, rfl, hcr, hfin, hc1⟩; have hL := wv_fin hfin; rw [hL] at hcr ⊢; have HCR := hid hcr; have HC1 := hid hc1; clear hcr hfin hc1 hL)
 have hlen := HCR.out.len
 obtain ⟨r0, r1, rfl⟩ : ∃ r0 r1, rvs = [r0, r1] := by
  match rvs, hlen with
  | [r0, r1], _ => exact ⟨r0, r1, rfl⟩
 have hr1 := HCR.out.recs 1 ⟨1, 0, 4, [7], 0, 4, 7⟩ r1 rfl rfl
 obtain ⟨b, o, hx, hcc, -⟩ := reads_index (P := Tryz.prog) Tryz.underlying34 szCall HCR.out.rd
 have ix : ∀ u, (Instr.indexAt 34 (.slice a 2 c) (.int .i64 1)).run Tryz.prog u = .ok (.pointer (some ⟨b, o + 7, none⟩)) u := fun u => by
  have := hx 1 (by decide) u
  simpa using this
 have c4 : w1.cell? ⟨b, o + 7 + 4, none⟩ = some (.int .i64 0) := by
  have := hcc (7 + 4) _ rfl
  rwa [<- Nat.add_assoc] at this
 have c3 : w1.cell? ⟨b, o + 7 + 3, none⟩ = some r1 := by
  have := hcc (7 + 3) _ rfl
  rwa [<- Nat.add_assoc] at this
 obtain ⟨ra1, rc1, rfl, _⟩ := reads_slice hr1.1
 have HR1 := hid hr1
 have hb7 : Blk (w1.alloc (.cells #[.int .u32 7] 22)) w1.heap.size #[.int .u32 7] 22 := Blk.new _ _ _
 have hv7 : ReadsW (w1.alloc (.cells #[.int .u32 7] 22)) (.slice (some ⟨w1.heap.size, 0, none⟩) 1 1) [7] := ⟨reads_blk hb7 1 1 (by decide) (by decide) rfl, fun n hn => by rw [List.mem_singleton.1 hn]; decide⟩
 have HCA : Hid (Chg [] W (w1.alloc (.cells #[.int .u32 7] 22))) := hid ((HC.out.trans HC1.out).alloc _)
 have HWO := hid (Words_any _ _ [7] [7] _ (hr1.chg ((Chg.refl [] w1).alloc (.cells #[.int .u32 7] 22))) hv7 (by decide) (by decide))
 rw [show wordsB [7] [7] = true from decide_eq_true rfl] at HWO
 clear hlen hr1 hx hcc hb7 hv7 hV HF HCR HC HC1
 go_wp2_with (go_at_call 13; refine HWO.out.mono ?_; rintro e w3 ⟨rfl, nq, rfl⟩)
 go_ret
 exact ⟨rfl, HCA.out.drewN nq⟩
theorem cellsTodo : Tryz.prog.cellsOf 43 = 2 := by kernel_rfl
theorem cellsTodos : Tryz.prog.cellsOf 41 = 1 := by kernel_rfl
theorem cellsProcs : Tryz.prog.cellsOf 27 = 1 := by kernel_rfl
theorem cellsCase24 : Tryz.prog.cellsOf 29 = 10 := by kernel_rfl
theorem todos_open {w : World} {n : Nat} {cs : List Value} (h : kit.Opens Tryz.prog w (n + 4) 41 cs) : ∃ p : Pr, cs = p.cells /\ Reads w 2 p.val p.l.length (p.l.flatMap Td.cells) /\ ∀ t ∈ p.l, ReadsW w (.slice t.a t.wds.length t.c) t.wds := by
 obtain ⟨a, len, c, rfl⟩ := h.isSlice Tryz.underlying41 (by rw [cellsTodo]; decide)
 obtain ⟨xs, hx, hxs⟩ := Opens.slice h Tryz.underlying41 cellsTodo (by decide)
 obtain ⟨l, hl, hx2, hw⟩ := rows_of Td.cells (fun t => ReadsW w (.slice t.a t.wds.length t.c) t.wds) 2 (fun _ => rfl) len xs hx.1 fun i hi => by
  have hp := hxs i hi
  have hl3 := (hp.struct Tryz.underlying43).1
  obtain ⟨t0, g0, v0⟩ := (hp.field Tryz.underlying43 0 _ rfl 0 1 rfl cellsInt).int Tryz.underlying3
  have o1 := hp.field Tryz.underlying43 1 _ rfl 1 1 rfl cellsWs
  obtain ⟨ra, rl, rc, g1⟩ := o1.isSlice Tryz.underlying23 (by rw [cellsU32]; decide)
  rw [g1] at o1
  obtain ⟨zs, z1, z2, z3⟩ := kit.Opens.ints (n := n) o1 Tryz.underlying23 Tryz.underlying22 cellsU32
  rw [cellsTodo] at hl3
  subst z1
  refine ⟨⟨t0, ra, rc, zs⟩, ?_, z2, z3⟩
  generalize (xs.drop (i * 2)).take 2 = ys at *
  match ys, hl3 with
  | [y0, y1], _ => simp at g0 g1; rw [g0, g1]; rfl
 subst hl
 refine ⟨⟨a, c, l⟩, rfl, ?_, hw⟩
 show Reads w 2 (.slice a l.length c) l.length (l.flatMap Td.cells)
 rw [<- hx2]
 exact hx
theorem procs_open {w : World} {n : Nat} {cs : List Value} (h : kit.Opens Tryz.prog w (n + 5) 27 cs) : ∃ a c, ∃ ps : List Pr, cs = [.slice a ps.length c] /\ ProcsR w (.slice a ps.length c) ps := by
 obtain ⟨a, len, c, rfl⟩ := h.isSlice Tryz.underlying27 (by rw [cellsTodos]; decide)
 obtain ⟨xs, hx, hxs⟩ := Opens.slice h Tryz.underlying27 cellsTodos (by decide)
 obtain ⟨ps, hl, hx2, hw⟩ := rows_of Pr.cells (fun p => Reads w 2 p.val p.l.length (p.l.flatMap Td.cells) /\ ∀ t ∈ p.l, ReadsW w (.slice t.a t.wds.length t.c) t.wds) 1 (fun _ => rfl) len xs hx.1 fun i hi => by
  obtain ⟨p, h1, h2⟩ := todos_open (n := n) (hxs i hi)
  exact ⟨p, h1, h2⟩
 subst hl
 refine ⟨a, c, ps, rfl, ?_, fun p hp => (hw p hp).1, fun p hp => (hw p hp).2⟩
 rw [<- hx2]
 exact hx
structure CaseAt (w : World) (cs : List Value) where
 o : ObV
 pa : Option Addr
 pc : Nat
 ps : List Pr
 qa : Option Addr
 qc : Nat
 ts : List Int
 he : cs = o.cells ++ [.slice pa ps.length pc, .slice qa ts.length qc]
 hO : o.il <= 100 -> o.rl <= 100 -> ObjW o.k o.w o.s o.c o.st o.il o.rl
 ini : ∃ ini, ReadsW w (.slice o.ia o.il o.ic) ini
 procs : ProcsR w (.slice pa ps.length pc) ps
 turns : Reads w 1 (.slice qa ts.length qc) ts.length (ts.map (Value.int .i64))
theorem case24_open {w : World} {n : Nat} {cs : List Value} (h : kit.Opens Tryz.prog w (n + 6) 29 cs) : Nonempty (CaseAt w cs) := by
 have hl := (h.struct Tryz.underlying29).1
 have h0 := h.field Tryz.underlying29 0 _ rfl 0 8 rfl cellsO
 obtain ⟨k, w', s, c, st, ia, il, ic, wri, ra, rl, rc, hcs, hb⟩ := obj_open (n := n + 2) h0
 rw [hcs] at h0
 obtain ⟨ini, hi⟩ := init_open (n := n + 2) h0
 have o8 := h.field Tryz.underlying29 1 _ rfl 8 1 rfl cellsProcs
 have o9 := h.field Tryz.underlying29 2 _ rfl 9 1 rfl cellsIs
 obtain ⟨pa, pc, ps, h8, r8⟩ := procs_open (n := n) o8
 obtain ⟨qa, ql, qc, h9⟩ := o9.isSlice Tryz.underlying24 (by rw [cellsInt]; decide)
 rw [h9] at o9
 obtain ⟨zs, z1, z2, z3⟩ := kit.Opens.ints (n := n + 3) o9 Tryz.underlying24 Tryz.underlying3 cellsInt
 subst z1
 rw [cellsCase24] at hl
 refine ⟨⟨⟨k, w', s, c, st, ia, il, ic, wri, ra, rl, rc⟩, pa, pc, ps, qa, qc, zs, ?_, hb, ⟨ini, hi⟩, r8, z2⟩⟩
 match cs, hl with
 | [y0, y1, y2, y3, y4, y5, y6, y7, y8, y9], _ =>
  simp at hcs h8 h9
  obtain ⟨rfl, rfl, rfl, rfl, rfl, rfl, rfl, rfl⟩ := hcs
  rw [h8, h9]
  rfl
end Go.Proofs.YtphfnjcboellhaaGreatDoor.wv
