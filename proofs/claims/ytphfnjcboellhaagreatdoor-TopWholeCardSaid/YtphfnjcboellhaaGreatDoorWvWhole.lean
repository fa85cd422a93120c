import Derived.Test.YtphfnjcboellhaaGreatDoorWvFin
import Derived.Test.YtphfnjcboellhaaGreatDoorWvSim
namespace Go.Proofs.YtphfnjcboellhaaGreatDoor.wv
open Go Go.RowKit kit obj mem core
def lv (p : PM) : Option (Core × List Int) := match p.o with
 | none => none
 | some q => if q.1.over = true then none else some q
def lvs (L : Lo) (k : Nat) : Option (Core × List Int) := match L.ps[k]? with
 | none => none
 | some p => lv p
def upd (f : Nat -> Option (Core × List Int)) (k : Nat) (v : Option (Core × List Int)) : Nat -> Option (Core × List Int) := fun j => if j = k then v else f j
theorem upd_self (f : Nat -> Option (Core × List Int)) (k : Nat) (v : Option (Core × List Int)) : upd f k v k = v := if_pos rfl
theorem upd_ne (f : Nat -> Option (Core × List Int)) {k j : Nat} (v : Option (Core × List Int)) (h : j ≠ k) : upd f k v j = f j := if_neg h
structure Stat (o : ObV) (w0 r0 : Int) (k : Nat) (x : Core) : Prop where
 w : x.w = o.w
 s : x.s = o.s
 rl : x.rl = o.rl
 base : x.base = 0
 op : x.op = if k = 0 then w0 else r0
 rd : 0 < k -> x.reader = (k : Int) - 1
structure Alg (w0 r0 : Int) (K : Kind) (o : ObV) (ok : List Int -> Prop) (I : Nat -> List Int -> (Nat -> Option (Core × List Int)) -> Prop) : Prop where
 begW : ∀ {n : Nat} {ws : List Int} {f : Nat -> Option (Core × List Int)} {r : List Int},I n ws f -> f 0 = none -> ok r -> (r.length : Int) = o.w -> I n ws (upd f 0 (some (frO o w0 0,r)))
 begR : ∀ {n : Nat} {ws : List Int} {f : Nat -> Option (Core × List Int)} {j : Nat},I n ws f -> f (j + 1) = none -> j < o.rl -> I n ws (upd f (j + 1) (some (frO o r0 j, [])))
 step : ∀ {n : Nat} {ws : List Int} {f : Nat -> Option (Core × List Int)} {k : Nat} {x : Core} {r : List Int} (mv : Value),I n ws f -> n <= 60000 -> f k = some (x,r) -> K.Shape x r -> x.over = false -> Stat o w0 r0 k x -> k <= o.rl -> x.size = ws.length -> (∀ z ∈ ws,0 <= z /\ z <= 4294967295) →
  Stat o w0 r0 k (K.step x mv r ws).1 /\ I (n + 1) (K.step x mv r ws).2.2 (upd f k (if (K.step x mv r ws).1.over = true then none else some ((K.step x mv r ws).1,(K.step x mv r ws).2.1))) /\ (0 < k -> (K.step x mv r ws).1.over = true -> (K.step x mv r ws).1.code = 0 -> ok (K.step x mv r ws).2.1)
structure Inv (w0 r0 : Int) (o : ObV) (ok : List Int -> Prop) (I : Nat -> List Int -> (Nat -> Option (Core × List Int)) -> Prop) (L : Lo) : Prop where
 alg : I L.now L.ws (lvs L)
 stat : ∀ (k : Nat) m x r,L.ps[k]? = some m -> m.o = some (x,r) -> Stat o w0 r0 k x
 left : ∀ m,L.ps[0]? = some m -> ∀ t ∈ m.left,ok t.wds
 own : ∀ (k : Nat) m x r,L.ps[k]? = some m -> m.o = some (x,r) -> ∃ c,L.cs[m.call]? = some c /\ c.proc = (k : Int)
 calls : ∀ (i : Nat) c,L.cs[i]? = some c -> c.proc ≠ 0 -> (c.code = 0 -> ok c.wds) \/ ∃ (k : Nat) (m : PM) (x : Core) (r : List Int),c.proc = (k : Int) /\ L.ps[k]? = some m /\ m.o = some (x,r) /\ x.over = false /\ m.call = i
section
variable {kk : Nat} {w0 r0 : Int} {K : Kind} {o : ObV} {ok : List Int -> Prop} {I : Nat -> List Int -> (Nat -> Option (Core × List Int)) -> Prop} {L : Lo}
theorem Stat.fresh {o : ObV} {w0 r0 op : Int} {k : Nat} (h : op = if k = 0 then w0 else r0) : Stat o w0 r0 k (frO o op (max ((k : Int) - 1) 0)) :=
 ⟨rfl,rfl,rfl,rfl,h,fun hk => by show max ((k : Int) - 1) 0 = _; omega⟩
structure Mid (w0 r0 : Int) (o : ObV) (ok : List Int -> Prop) (I : Nat -> List Int -> (Nat -> Option (Core × List Int)) -> Prop) (L : Lo) (j : Nat) (p : PM) (cs : List Cl) (x : Core) (r : List Int) (f : Nat -> Option (Core × List Int)) : Prop where
 alg : I L.now L.ws f
 at_ : f j = some (x,r)
 ne : ∀ i,i ≠ j -> f i = lvs L i
 stat : Stat o w0 r0 j x
 left : j = 0 -> ∀ t ∈ p.left,ok t.wds
 own : ∃ c,cs[p.call]? = some c /\ c.proc = (j : Int)
 own' : ∀ (k : Nat) m x r,k ≠ j -> L.ps[k]? = some m -> m.o = some (x,r) -> ∃ c,cs[m.call]? = some c /\ c.proc = (k : Int)
 calls : ∀ (i : Nat) c,cs[i]? = some c -> c.proc ≠ 0 -> (c.code = 0 -> ok c.wds) \/ (c.proc = (j : Int) /\ i = p.call) \/ ∃ (k : Nat) (m : PM) (x : Core) (r : List Int),k ≠ j /\ c.proc = (k : Int) /\ L.ps[k]? = some m /\ m.o = some (x,r) /\ x.over = false /\ m.call = i
theorem lv_live {p : PM} {x : Core} {r : List Int} (h : p.o = some (x,r)) (ho : x.over = false) : lv p = some (x,r) := by
 unfold lv
 rw [h]
 simp [ho]
theorem lv_over {p : PM} (h : p.over = true) : lv p = none := by
 unfold lv PM.over at *
 match hp : p.o with
 | none => rfl
 | some q =>
  rw [hp] at h
  simp only
  rw [if_pos h]
theorem mid_of (A : Alg w0 r0 K o ok I) (hw : WF kk w0 r0 K o L) (h : Inv w0 r0 o ok I L) {j : Nat} {p p' : PM} {cs : List Cl} {x : Core} {r : List Int} (hp : L.ps[j]? = some p) (hb : beginM (frO o) j L p = some (p',cs)) (ho : p'.o = some (x,r)) (hov : x.over = false) : ∃ f,Mid w0 r0 o ok I L j p' cs x r f := by
 rcases beginM_o hb with ⟨h1,rfl,rfl⟩ | ⟨t,l,h1,h2,rfl,rfl⟩
 · refine ⟨lvs L,h.alg, ?_,fun i _ => rfl,h.stat j _ x r hp ho,fun hj t ht => ?_,h.own j _ x r hp ho,fun k m x r _ h1 h2 => h.own k m x r h1 h2,fun i c hc h0 => ?_⟩
   · unfold lvs
     rw [hp]
     exact lv_live ho hov
   · subst hj
     exact h.left _ hp t ht
   · rcases h.calls i c hc h0 with h3 | ⟨k,m,x',r',e1,e2,e3,e4,e5⟩
     · exact .inl h3
     · by_cases hk : k = j
       · subst hk
         rw [hp] at e2
         injection e2 with e2
         subst e2
         exact .inr (.inl ⟨e1,e5.symm⟩)
       · exact .inr (.inr ⟨k,m,x',r',hk,e1,e2,e3,e4,e5⟩)
 · injection ho with ho
   injection ho with e1 e2
   have hnone : lvs L j = none := by unfold lvs; rw [hp]; exact lv_over h1
   have htd := hw.td j p hp t (by rw [h2]; simp)
   have hop : t.op = if j = 0 then w0 else r0 := by
    rcases htd with ⟨a1,a2,a3⟩ | ⟨a1,a2,a3,a4⟩
    · rw [if_pos a2]; exact a1
    · rw [if_neg (by omega)]; exact a1
   have halg : I L.now L.ws (upd (lvs L) j (some (x,r))) := by
    subst e1 e2
    rcases htd with ⟨a1,a2,a3⟩ | ⟨a1,a2,a3,a4⟩
    · subst a2
      rw [a1]
      exact A.begW h.alg hnone (h.left p hp t (by rw [h2]; simp)) a3
    · obtain ⟨i,rfl⟩ : ∃ i,j = i + 1 := ⟨j - 1,by omega⟩
      have := A.begR h.alg hnone (by omega)
      rw [a1,a4,show max (((i + 1 : Nat) : Int) - 1) 0 = (i : Int) by omega]
      exact this
   refine ⟨upd (lvs L) j (some (x,r)),halg,upd_self _ _ _,fun i hi => upd_ne _ _ hi,by rw [<- e1]; exact Stat.fresh hop,fun hj t' ht' => ?_,⟨⟨j,0,t.op,t.wds,0,L.now, -1⟩,by simp,rfl⟩,fun k m x' r' hk h3 h4 => ?_,fun i c hc h0 => ?_⟩
   · subst hj
     exact h.left _ hp t' (by rw [h2]; exact List.mem_cons_of_mem _ ht')
   · obtain ⟨c,c1,c2⟩ := h.own k m x' r' h3 h4
     exact ⟨c,by rw [List.getElem?_append_left (List.getElem?_eq_some_iff.1 c1).1]; exact c1,c2⟩
   · rw [List.getElem?_append] at hc
     split at hc
     · rcases h.calls i c hc h0 with h3 | ⟨k,m,x',r',e1,e2,e3,e4,e5⟩
       · exact .inl h3
       · by_cases hk : k = j
         · subst hk
           rw [hp] at e2
           injection e2 with e2
           subst e2
           unfold PM.over at h1
           rw [e3] at h1
           simp only at h1
           rw [h1] at e4
           cases e4
         · exact .inr (.inr ⟨k,m,x',r',hk,e1,e2,e3,e4,e5⟩)
     · rename_i hi
       have hi2 := (List.getElem?_eq_some_iff.1 hc).1
       simp only [List.length_singleton] at hi2
       have e := List.mem_singleton.1 (List.mem_of_getElem? hc)
       subst e
       exact .inr (.inl ⟨rfl,by show i = L.cs.length; omega⟩)
theorem turnM_inv (A : Alg w0 r0 K o ok I) {mv : Value} (hw : WF kk w0 r0 K o L) (hl : L.ps.length = o.rl + 1) (hf : Fine L) (hn : L.now <= 60000) (h : Inv w0 r0 o ok I L) (k : Int) : Inv w0 r0 o ok I (turnM K mv (frO o) L k).1 := by
 cases hm : (turnM K mv (frO o) L k).2 with
 | false => rw [turnM_false hm]; exact h
 | true =>
  obtain ⟨j,p,p',cs,x,r,rfl,hp,hb,ho,hov,hs,he⟩ := turnM_made hw hm
  rw [he]
  obtain ⟨f,M⟩ := mid_of A hw h hp hb ho hov
  have hjl := (List.getElem?_eq_some_iff.1 hp).1
  have hwb := (beginM_wb hw hp hb (frO_over o)).op
  obtain ⟨x2,r2,a1, -, -, -,a5,a6,a7⟩ := hwb
  rw [ho] at a1
  injection a1 with a1
  injection a1 with b1 b2
  subst b1 b2
  obtain ⟨s1,s2,s3⟩ := A.step mv M.alg hn M.at_ hs hov M.stat (by omega) a6 hf.ws
  unfold stepM
  rw [ho]
  simp only
  have hget : ∀ i,(L.ps.set j { p' with o := some ((K.step x mv r L.ws).1,(K.step x mv r L.ws).2.1) })[i]? = if i = j then some { p' with o := some ((K.step x mv r L.ws).1,(K.step x mv r L.ws).2.1) } else L.ps[i]? := fun i => by
   rw [List.getElem?_set]
   by_cases hi : i = j
   · rw [if_pos hi.symm,if_pos hjl,if_pos hi]
   · rw [if_neg (fun e => hi e.symm),if_neg hi]
  have hmodp : ∀ (i : Nat) y,(if (K.step x mv r L.ws).1.over = true then cs.modify p'.call (endC j L.now (K.step x mv r L.ws).1 (K.step x mv r L.ws).2.1) else cs)[i]? = some y -> ∃ c,cs[i]? = some c /\ y.proc = c.proc /\ (y = c \/ ((K.step x mv r L.ws).1.over = true /\ i = p'.call /\ y = endC j L.now (K.step x mv r L.ws).1 (K.step x mv r L.ws).2.1 c)) := fun i y hy => by
   split at hy
   · rename_i hq
     obtain ⟨c,c1,c2,c3⟩ := modify_at (f := endC j L.now (K.step x mv r L.ws).1 (K.step x mv r L.ws).2.1) (fun c => rfl) i y hy
     refine ⟨c,c1, ?_, ?_⟩
     · rcases c3 with rfl | ⟨_,rfl⟩
       · rfl
       · rfl
     · rcases c3 with rfl | ⟨c4,rfl⟩
       · exact .inl rfl
       · exact .inr ⟨hq,c4,rfl⟩
   · exact ⟨y,hy,rfl, .inl rfl⟩
  have hmod2 : ∀ (i : Nat) c,cs[i]? = some c -> ∃ y,(if (K.step x mv r L.ws).1.over = true then cs.modify p'.call (endC j L.now (K.step x mv r L.ws).1 (K.step x mv r L.ws).2.1) else cs)[i]? = some y /\ y.proc = c.proc := fun i c hc => by
   split
   · rw [List.getElem?_modify,hc]
     by_cases hi : p'.call = i
     · exact ⟨endC j L.now (K.step x mv r L.ws).1 (K.step x mv r L.ws).2.1 c,by simp [hi],rfl⟩
     · exact ⟨c,by simp [hi],rfl⟩
   · exact ⟨c,hc,rfl⟩
  refine ⟨?_,fun i m x' r' hm' ho' => ?_,fun m hm' t ht => ?_,fun i m x' r' hm' ho' => ?_,fun i c hc h0 => ?_⟩
  · have hfe : lvs ⟨(K.step x mv r L.ws).2.2,L.ps.set j { p' with o := some ((K.step x mv r L.ws).1,(K.step x mv r L.ws).2.1) },(if (K.step x mv r L.ws).1.over = true then cs.modify p'.call (endC j L.now (K.step x mv r L.ws).1 (K.step x mv r L.ws).2.1) else cs),L.now + 1⟩ = upd f j (if (K.step x mv r L.ws).1.over = true then none else some ((K.step x mv r L.ws).1,(K.step x mv r L.ws).2.1)) := by
     funext i
     unfold lvs
     simp only
     rw [hget]
     by_cases hi : i = j
     · subst hi
       rw [if_pos rfl,upd_self]
       rfl
     · rw [if_neg hi,upd_ne _ _ hi,M.ne i hi]
       rfl
    show I (L.now + 1) _ _
    rw [hfe]
    exact s2
  · show Stat o w0 r0 i x'
    have hm2 : (L.ps.set j { p' with o := some ((K.step x mv r L.ws).1,(K.step x mv r L.ws).2.1) })[i]? = some m := hm'
    rw [hget] at hm2
    by_cases hi : i = j
    · subst hi
      rw [if_pos rfl] at hm2
      injection hm2 with hm2
      subst hm2
      injection ho' with ho'
      injection ho' with e1 e2
      subst e1
      exact s1
    · rw [if_neg hi] at hm2
      exact h.stat i m x' r' hm2 ho'
  · have hm2 : (L.ps.set j { p' with o := some ((K.step x mv r L.ws).1,(K.step x mv r L.ws).2.1) })[0]? = some m := hm'
    rw [hget] at hm2
    by_cases hi : 0 = j
    · rw [if_pos hi] at hm2
      injection hm2 with hm2
      subst hm2
      exact M.left hi.symm t ht
    · rw [if_neg hi] at hm2
      exact h.left m hm2 t ht
  · have hm2 : (L.ps.set j { p' with o := some ((K.step x mv r L.ws).1,(K.step x mv r L.ws).2.1) })[i]? = some m := hm'
    rw [hget] at hm2
    show ∃ c,(if (K.step x mv r L.ws).1.over = true then cs.modify p'.call (endC j L.now (K.step x mv r L.ws).1 (K.step x mv r L.ws).2.1) else cs)[m.call]? = some c /\ c.proc = (i : Int)
    by_cases hi : i = j
    · subst hi
      rw [if_pos rfl] at hm2
      injection hm2 with hm2
      subst hm2
      obtain ⟨c,c1,c2⟩ := M.own
      obtain ⟨y,y1,y2⟩ := hmod2 _ c c1
      exact ⟨y,y1,by rw [y2,c2]⟩
    · rw [if_neg hi] at hm2
      obtain ⟨c,c1,c2⟩ := M.own' i m x' r' hi hm2 ho'
      obtain ⟨y,y1,y2⟩ := hmod2 _ c c1
      exact ⟨y,y1,by rw [y2,c2]⟩
  · obtain ⟨c0,c1,c2,c3⟩ := hmodp i c hc
    rcases c3 with rfl | ⟨d1,d2,d3⟩
    · rcases M.calls i c c1 h0 with e | ⟨e1,e2⟩ | ⟨k,m,x',r',e0,e1,e2,e3,e4,e5⟩
      · exact .inl e
      · by_cases hq : (K.step x mv r L.ws).1.over = true
        · -- the call that ends is not this one: it was changed
          have hc2 : (cs.modify p'.call (endC j L.now (K.step x mv r L.ws).1 (K.step x mv r L.ws).2.1))[i]? = some c := by have := hc; simp only [if_pos hq] at this; exact this
          rw [List.getElem?_modify,c1] at hc2
          have hc3 : (if p'.call = i then endC j L.now (K.step x mv r L.ws).1 (K.step x mv r L.ws).2.1 c else c) = c := Option.some.inj hc2
          rw [if_pos e2.symm] at hc3
          left
          intro hcode
          rw [<- hc3] at hcode ⊢
          have hj : 0 < j := by rw [e1] at h0; omega
          show ok (if 0 < j then _ else _)
          rw [if_pos hj]
          exact s3 hj hq hcode
        · refine .inr ⟨j, { p' with o := some ((K.step x mv r L.ws).1,(K.step x mv r L.ws).2.1) },(K.step x mv r L.ws).1,(K.step x mv r L.ws).2.1,e1, ?_,rfl,by simpa using hq,e2.symm⟩
          show (L.ps.set j _)[j]? = _
          rw [hget,if_pos rfl]
      · refine .inr ⟨k,m,x',r',e1, ?_,e3,e4,e5⟩
        show (L.ps.set j _)[k]? = _
        rw [hget,if_neg e0]
        exact e2
    · subst d3
      left
      intro hcode
      obtain ⟨c',f1,f2⟩ := M.own
      rw [<- d2,c1] at f1
      injection f1 with f1
      subst f1
      have hj : 0 < j := by
       have h0' : c0.proc ≠ 0 := h0
       rw [f2] at h0'
       omega
      show ok (if 0 < j then _ else _)
      rw [if_pos hj]
      exact s3 hj d1 hcode
end
theorem runs_inv {kk : Nat} {w0 r0 : Int} {K : Kind} {o : ObV} {ok : List Int -> Prop} {I : Nat -> List Int -> (Nat -> Option (Core × List Int)) -> Prop} {L : Lo} {mv : Value} {ts : List Int} (A : Alg w0 r0 K o ok I) (hl : L.ps.length = o.rl + 1) (h : Inv w0 r0 o ok I L) (hg : Good kk w0 r0 K o mv L ts) (hn : L.now + ts.length <= 60000) : Inv w0 r0 o ok I (turnsM K mv (frO o) L ts) := by
 have hj : ∀ j,j <= ts.length -> Inv w0 r0 o ok I (turnsM K mv (frO o) L (ts.take j)) := by
  intro j
  induction j with
  | zero => intro _; exact h
  | succ j ih =>
   intro hj
   obtain ⟨t,ht⟩ : ∃ t,ts[j]? = some t := ⟨_,List.getElem?_eq_getElem hj⟩
   rw [show ts.take (j + 1) = ts.take j ++ [t] by rw [List.take_add_one,ht]; rfl,turnsM_snoc]
   obtain ⟨h1,h2, -⟩ := hg j (by omega)
   have hnow := (turnsM_now K mv (frO o) (ts.take j) L).2
   rw [List.length_take] at hnow
   exact turnM_inv A h1 (by rw [turnsM_plen]; exact hl) h2 (by omega) (ih (by omega)) t
 have := hj ts.length (Nat.le_refl _)
 rwa [List.take_length] at this
theorem Inv.start {w0 r0 : Int} {o : ObV} {ok : List Int -> Prop} {I : Nat -> List Int -> (Nat -> Option (Core × List Int)) -> Prop} {ws : List Int} {ps : List Pr} (hI : I 0 ws (fun _ => none)) (hok : ∀ p,ps[0]? = some p -> ∀ t ∈ p.l,ok t.wds) : Inv w0 r0 o ok I (lo0 ws ps) := by
 have hget : ∀ (k : Nat) m,(lo0 ws ps).ps[k]? = some m -> ∃ p,ps[k]? = some p /\ m = ⟨p.l,none,0⟩ := fun k m h1 => by
  simp only [lo0,List.getElem?_map,Option.map_eq_some_iff] at h1
  obtain ⟨p,e1,rfl⟩ := h1
  exact ⟨p,e1,rfl⟩
 refine ⟨?_,fun k m x r h1 h2 => ?_,fun m h1 t ht => ?_,fun k m x r h1 h2 => ?_,fun i c h1 => by simp [lo0] at h1⟩
 · have e : lvs (lo0 ws ps) = fun _ => none := by
    funext k
    unfold lvs
    match h : (lo0 ws ps).ps[k]? with
    | none => rfl
    | some m =>
     obtain ⟨p,_,rfl⟩ := hget k m h
     rfl
   rw [e]
   exact hI
 · obtain ⟨p,_,rfl⟩ := hget k m h1
   cases h2
 · obtain ⟨p,e,rfl⟩ := hget 0 m h1
   exact hok p e t ht
 · obtain ⟨p,_,rfl⟩ := hget k m h1
   cases h2
theorem Inv.whole {w0 r0 : Int} {o : ObV} {ok : List Int -> Prop} {I : Nat -> List Int -> (Nat -> Option (Core × List Int)) -> Prop} {L : Lo} (h : Inv w0 r0 o ok I L) (hd : ∀ (k : Nat) p,L.ps[k]? = some p -> p.over = true /\ p.left = []) : ∀ c ∈ L.cs,c.proc ≠ 0 -> c.code = 0 -> ok c.wds := fun c hc h0 hcode => by
 obtain ⟨i,hi,e⟩ := List.getElem_of_mem hc
 rcases h.calls i c (List.getElem?_eq_some_iff.2 ⟨hi,e⟩) h0 with h1 | ⟨k,m,x,r,e1,e2,e3,e4,e5⟩
 · exact h1 hcode
 · have h2 := (hd k m e2).1
   unfold PM.over at h2
   rw [e3] at h2
   simp only at h2
   rw [h2] at e4
   cases e4
def Sl (ws : List Int) (h w j : Nat) (rr : List Int) : Prop := rr.length = w /\ ∀ i,i < w -> ws.getD (h + (j * w + i)) 0 = rr.getD i 0
def Wh (ok : List Int -> Prop) (ws : List Int) (h w j : Nat) : Prop := ∃ rr,ok rr /\ Sl ws h w j rr
def Pt (ws : List Int) (h w j i : Nat) (r : List Int) : Prop := r.length = w /\ ∀ l,l < i -> ws.getD (h + (j * w + l)) 0 = r.getD l 0
def Rd (ok : List Int -> Prop) (ws : List Int) (h w j i : Nat) (r : List Int) : Prop := ∃ rr,ok rr /\ Sl ws h w j rr /\ r = rr.take i
section
variable {ok : List Int -> Prop} {ws : List Int} {h w j i : Nat} {r rr : List Int}
theorem getD_head {c n : Nat} (hc : c < h) (v : Int) (hn : h <= n) : (ws.set c v).getD n 0 = ws.getD n 0 := by
 rw [getD_set,if_neg (fun e => by omega)]
theorem Sl.head (s : Sl ws h w j rr) {c : Nat} (hc : c < h) (v : Int) : Sl (ws.set c v) h w j rr :=
 ⟨s.1,fun i hi => by rw [getD_head hc v (by omega)]; exact s.2 i hi⟩
theorem Wh.head (s : Wh ok ws h w j) {c : Nat} (hc : c < h) (v : Int) : Wh ok (ws.set c v) h w j := by
 obtain ⟨rr,h1,h2⟩ := s
 exact ⟨rr,h1,h2.head hc v⟩
theorem Pt.head (s : Pt ws h w j i r) {c : Nat} (hc : c < h) (v : Int) : Pt (ws.set c v) h w j i r :=
 ⟨s.1,fun l hl => by rw [getD_head hc v (by omega)]; exact s.2 l hl⟩
theorem Rd.head (s : Rd ok ws h w j i r) {c : Nat} (hc : c < h) (v : Int) : Rd ok (ws.set c v) h w j i r := by
 obtain ⟨rr,h1,h2,h3⟩ := s
 exact ⟨rr,h1,h2.head hc v,h3⟩
theorem getD_slot {k l : Nat} (hl : l < w) {m : Nat} (hm : m < w) (hk : k ≠ j) (v : Int) : (ws.set (h + (k * w + l)) v).getD (h + (j * w + m)) 0 = ws.getD (h + (j * w + m)) 0 := by
 rw [getD_set,if_neg]
 rintro ⟨e, -⟩
 exact hk (idx_inj hl hm (by omega)).1
theorem Sl.slot (s : Sl ws h w j rr) {k l : Nat} (hl : l < w) (hk : k ≠ j) (v : Int) : Sl (ws.set (h + (k * w + l)) v) h w j rr :=
 ⟨s.1,fun i hi => by rw [getD_slot hl hi hk]; exact s.2 i hi⟩
theorem Wh.slot (s : Wh ok ws h w j) {k l : Nat} (hl : l < w) (hk : k ≠ j) (v : Int) : Wh ok (ws.set (h + (k * w + l)) v) h w j := by
 obtain ⟨rr,h1,h2⟩ := s
 exact ⟨rr,h1,h2.slot hl hk v⟩
theorem Rd.slot (s : Rd ok ws h w j i r) {k l : Nat} (hl : l < w) (hk : k ≠ j) (v : Int) : Rd ok (ws.set (h + (k * w + l)) v) h w j i r := by
 obtain ⟨rr,h1,h2,h3⟩ := s
 exact ⟨rr,h1,h2.slot hl hk v,h3⟩
theorem Pt.zero (hr : r.length = w) : Pt ws h w j 0 r := ⟨hr,fun l hl => by omega⟩
theorem Pt.step (s : Pt ws h w j i r) (hi : i < w) (hb : h + (j * w + i) < ws.length) : Pt (ws.set (h + (j * w + i)) (r.getD i 0)) h w j (i + 1) r := by
 refine ⟨s.1,fun l hl => ?_⟩
 rw [getD_set]
 by_cases e : i = l
 · subst e
   rw [if_pos ⟨rfl,hb⟩]
 · rw [if_neg (fun h2 => by omega)]
   exact s.2 l (by omega)
theorem Pt.whole (s : Pt ws h w j w r) (hr : ok r) : Wh ok ws h w j := ⟨r,hr,s.1,s.2⟩
theorem Wh.rd (s : Wh ok ws h w j) : Rd ok ws h w j 0 [] := by
 obtain ⟨rr,h1,h2⟩ := s
 exact ⟨rr,h1,h2,rfl⟩
theorem Rd.step (s : Rd ok ws h w j i r) (hi : i < w) : Rd ok ws h w j (i + 1) (r ++ [ws.getD (h + (j * w + i)) 0]) := by
 obtain ⟨rr,h1,h2,h3⟩ := s
 refine ⟨rr,h1,h2, ?_⟩
 rw [h2.2 i hi,h3,List.take_add_one,List.getD_eq_getElem?_getD,List.getElem?_eq_getElem (by rw [h2.1]; exact hi)]
 rfl
theorem Rd.all (s : Rd ok ws h w j w r) : ok r := by
 obtain ⟨rr,h1,h2,h3⟩ := s
 rw [h3,List.take_of_length_le (by rw [h2.1]; exact Nat.le_refl _)]
 exact h1
end
theorem place_eq (h : Nat) (sl : Int) (w : Nat) (h0 : 0 <= sl) : h + (sl * (w : Int)).toNat = h + sl.toNat * w := by
 obtain ⟨j,rfl⟩ : ∃ j : Nat,sl = j := ⟨sl.toNat,by omega⟩
 rw [Int.toNat_natCast,show ((j : Int) * (w : Int)) = ((j * w : Nat) : Int) from (Int.natCast_mul _ _).symm,Int.toNat_natCast]
def cur (ws : List Int) (p : Nat) : Nat := 2 * p + (ws.getD (2 + p) 0).toNat
def bit (z : Int) : Prop := z = 0 \/ z = 1
structure FourW (ok : List Int -> Prop) (w : Nat) (ws : List Int) (x : Core) (r : List Int) : Prop where
 good : ok r
 a : bit x.a
 b : bit x.b
 p2 : x.phase = 2 -> x.b ≠ ws.getD (2 + x.a.toNat) 0 /\ Pt ws 4 w (2 * x.a.toNat + x.b.toNat) x.i.toNat r
 p3 : x.phase = 3 -> x.b ≠ ws.getD (2 + x.a.toNat) 0 /\ Pt ws 4 w (2 * x.a.toNat + x.b.toNat) w r
 p4 : x.phase = 4 -> ws.getD (2 + x.a.toNat) 0 = x.b /\ Wh ok ws 4 w (2 * x.a.toNat + x.b.toNat)
structure FourR (ok : List Int -> Prop) (w : Nat) (ws : List Int) (y : Core) (q : List Int) : Prop where
 a : bit y.a
 b : bit y.b
 p1 : y.phase = 1 -> Wh ok ws 4 w (cur ws y.a.toNat)
 p2 : y.phase = 2 -> ws.getD 1 0 = y.a /\ Wh ok ws 4 w (cur ws y.a.toNat)
 p3 : y.phase = 3 -> ws.getD 1 0 = y.a /\ Rd ok ws 4 w (2 * y.a.toNat + y.b.toNat) y.i.toNat q
def FourB (ws : List Int) (x y : Core) : Prop := y.phase = 3 -> 1 <= x.phase -> x.phase <= 3 -> x.a = y.a -> ws.getD (2 + y.a.toNat) 0 = y.b
structure FourI (ok : List Int -> Prop) (w : Nat) (n : Nat) (ws : List Int) (f : Nat -> Option (Core × List Int)) : Prop where
 len : ws.length = 4 + 4 * w
 hd : ∀ c,c < 4 -> bit (ws.getD c 0)
 v : Wh ok ws 4 w (cur ws (ws.getD 0 0).toNat)
 wr : ∀ x r,f 0 = some (x,r) -> FourW ok w ws x r
 rd : ∀ y q,f 1 = some (y,q) -> FourR ok w ws y q
 both : ∀ x r y q,f 0 = some (x,r) -> f 1 = some (y,q) -> FourB ws x y
section
variable {ok : List Int -> Prop} {w n : Nat} {ws : List Int} {f : Nat -> Option (Core × List Int)}
theorem bit_nat {z : Int} (h : bit z) : z.toNat < 2 /\ z = (z.toNat : Int) := by rcases h with rfl | rfl <;> decide
theorem FourI.setW (h : FourI ok w n ws f) {x' : Core} {r' : List Int} (hw : FourW ok w ws x' r') (hb : ∀ y q,f 1 = some (y,q) -> FourB ws x' y) (m : Nat) : FourI ok w m ws (upd f 0 (some (x',r'))) :=
 ⟨h.len,h.hd,h.v,fun x r e => by rw [upd_self] at e; cases e; exact hw,fun y q e => h.rd y q (by rw [upd_ne _ _ (by decide)] at e; exact e),fun x r y q e1 e2 => by
  rw [upd_self] at e1
  rw [upd_ne _ _ (by decide)] at e2
  cases e1
  exact hb y q e2⟩
theorem FourI.setR (h : FourI ok w n ws f) {y' : Core} {q' : List Int} (hr : FourR ok w ws y' q') (hb : ∀ x r,f 0 = some (x,r) -> FourB ws x y') (m : Nat) : FourI ok w m ws (upd f 1 (some (y',q'))) :=
 ⟨h.len,h.hd,h.v,fun x r e => h.wr x r (by rw [upd_ne _ _ (by decide)] at e; exact e),fun y q e => by rw [upd_self] at e; cases e; exact hr,fun x r y q e1 e2 => by
  rw [upd_self] at e2
  rw [upd_ne _ _ (by decide)] at e1
  cases e2
  exact hb x r e1⟩
theorem FourI.endR (h : FourI ok w n ws f) (m : Nat) : FourI ok w m ws (upd f 1 none) :=
 ⟨h.len,h.hd,h.v,fun x r e => h.wr x r (by rw [upd_ne _ _ (by decide)] at e; exact e),fun y q e => (by rw [upd_self] at e; exact (nomatch e)),fun x r y q e1 e2 => by
  rw [upd_self] at e2
  exact nomatch e2⟩
end
theorem four_start {ok : List Int -> Prop} {w : Nat} {ini : List Int} (hi : ini.length = w) (hok : ok ini) : FourI ok w 0 (four.layL w ini) (fun _ => none) := by
 have hh : ∀ c,c < 4 -> (four.layL w ini).getD c 0 = 0 := fun c hc => by
  unfold four.layL
  rw [List.getD_eq_getElem?_getD,List.getElem?_append_left (by simp; omega),List.getElem?_replicate,if_pos hc]
  rfl
 refine ⟨by unfold four.layL; simp; omega,fun c hc => .inl (hh c hc), ?_,fun x r e => (by cases e),fun x r e => (by cases e),fun x r y q e => (by cases e)⟩
 have e0 : cur (four.layL w ini) ((four.layL w ini).getD 0 0).toNat = 0 := by
  rw [hh 0 (by decide)]
  unfold cur
  rw [show 2 + Int.toNat 0 = 2 from rfl,hh 2 (by decide)]
  rfl
 rw [e0]
 refine ⟨ini,hok,hi,fun i hil => ?_⟩
 unfold four.layL
 rw [List.getD_eq_getElem?_getD,List.getElem?_append_right (by simp),List.length_replicate,List.getElem?_append_left (by omega),List.getD_eq_getElem?_getD,show 4 + (0 * w + i) - 4 = i by omega]
set_option maxHeartbeats 2000000 in
theorem four_alg {o : ObV} (hR : RightO 1 o) {ok : List Int -> Prop} {w : Nat} (hw : o.w = (w : Int)) : Alg 2 1 four.K o ok (FourI ok w) where
 begW := by
  intro n ws f r h hf hr hl
  exact h.setW ⟨hr, .inl rfl, .inl rfl,fun e => (by cases e),fun e => (by cases e),fun e => (by cases e)⟩ (fun y q e h1 h2 => by cases h2) n
 begR := by
  intro n ws f j h hf hj
  have hrl : o.rl = 1 := by have := hR.2.2; simp [rightB] at this; omega
  obtain rfl : j = 0 := by omega
  exact h.setR ⟨.inl rfl, .inl rfl,fun e => (by cases e),fun e => (by cases e),fun e => (by cases e)⟩ (fun x r e h1 => by cases h1) n
 step := by
  rintro n ws f k ⟨xk,xw,xs,xc,xst,xia,xil,xic,xwr,xra,xrl,xrc,xop,xrd,xph,xi,xtr,xa,xb,xus,xm,xba,xsz,xcode,xsteps,xov⟩ r mv h hn hf hs hov hst hk hsz hws
  have hrl : o.rl = 1 := by have := hR.2.2; simp [rightB] at this; omega
  obtain ⟨t1,t2,t3,t4,t5,t6⟩ := hst
  have hi := four.Shape.i hs hov
  simp only at t1 t2 t3 t4 t5 t6 hov hi
  subst hov t4
  rw [hw] at t1
  subst t1
  show Stat o 2 1 k (four.step _ _ _ _).1 /\ FourI ok w (n + 1) (four.step _ _ _ _).2.2 (upd f k (if (four.step _ _ _ _).1.over = true then none else some ((four.step _ _ _ _).1,(four.step _ _ _ _).2.1))) /\ (0 < k -> (four.step _ _ _ _).1.over = true -> (four.step _ _ _ _).1.code = 0 -> ok (four.step _ _ _ _).2.1)
  have hz : Int.toNat 0 = 0 := rfl
  have hwn : ((w : Int)).toNat = w := Int.toNat_natCast w
  obtain rfl | rfl : k = 0 \/ k = 1 := by omega
  · rw [if_pos rfl] at t5
    subst t5
    have W := h.wr _ _ hf
    obtain ⟨w1,w2,w3,w4,w5,w6⟩ := W
    have ha := bit_nat w2
    have hb := bit_nat w3
    simp only at w1 w2 w3 w4 w5 w6 ha hb
    simp only [four.step,if_pos,four.stepW,hz,Nat.zero_add,hwn]
    by_cases p0 : xph = 0
    · simp only [if_pos p0]
      refine ⟨⟨hw.symm,t2,t3,rfl,rfl,t6⟩, ?_,fun h0 => by omega⟩
      rw [if_neg (by simp)]
      refine h.setW ⟨w1,(by show bit ((ws.getD 1 0 + 1) % 2); unfold bit; omega),w3,fun e => (by cases e),fun e => (by cases e),fun e => (by cases e)⟩ (fun y q e e1 e2 e3 e4 => ?_) _
      have h1 := (h.rd y q e).p3 e1
      have h2 := h.hd 1 (by decide)
      simp only at e4
      exfalso
      unfold bit at h2
      omega
    by_cases p1 : xph = 1
    · simp only [if_neg p0,if_pos p1]
      refine ⟨⟨hw.symm,t2,t3,rfl,rfl,t6⟩, ?_,fun h0 => by omega⟩
      rw [if_neg (by simp)]
      have h2 := h.hd (2 + xa.toNat) (by omega)
      have hlen : r.length = w := by
       rcases four.Shape.op hs with ⟨_,_,h3⟩ | ⟨h3,_⟩
       · have := h3 rfl; simp only at this; omega
       · cases h3
      refine h.setW ⟨w1,w2,(by show bit ((ws.getD (2 + xa.toNat) 0 + 1) % 2); unfold bit; omega),fun e => ⟨?_,Pt.zero hlen⟩,fun e => (by cases e),fun e => (by cases e)⟩ (fun y q e e1 e2 e3 e4 => ?_) _
      · simp only
        unfold bit at h2
        omega
      · exact h.both _ _ y q hf e e1 (by simp only; omega) (by simp only; omega) e4
    by_cases p2 : xph = 2
    · simp only [if_neg p0,if_neg p1,if_pos p2]
      obtain ⟨c1,c2⟩ := w4 p2
      have hil : xi.toNat < w := by omega
      have hidx : 4 + (2 * xa.toNat + xb.toNat) * w + xi.toNat = 4 + ((2 * xa.toNat + xb.toNat) * w + xi.toNat) := by omega
      rw [hidx]
      have hlt : 4 + ((2 * xa.toNat + xb.toNat) * w + xi.toNat) < ws.length := by
       have := idx_lt (s := 4) (w := w) (j := 2 * xa.toNat + xb.toNat) (i := xi.toNat) (by omega) hil
       have := h.len
       omega
      have hcur : ∀ p,p < 2 -> 2 * xa.toNat + xb.toNat ≠ cur ws p := fun p hp e => by
       have h2 := bit_nat (h.hd (2 + p) (by omega))
       unfold cur at e
       have e1 : p = xa.toNat := by omega
       subst e1
       omega
      have hhead : ∀ c,c < 4 -> (ws.set (4 + ((2 * xa.toNat + xb.toNat) * w + xi.toNat)) (r.getD xi.toNat 0)).getD c 0 = ws.getD c 0 := fun c hc => by
       rw [getD_set,if_neg (fun e => by omega)]
      have hcure : ∀ p,p < 2 -> cur (ws.set (4 + ((2 * xa.toNat + xb.toNat) * w + xi.toNat)) (r.getD xi.toNat 0)) p = cur ws p := fun p hp => by
       unfold cur
       rw [hhead _ (by omega)]
      have hl0 := bit_nat (h.hd 0 (by decide))
      have hI : FourI ok w (n + 1) (ws.set (4 + ((2 * xa.toNat + xb.toNat) * w + xi.toNat)) (r.getD xi.toNat 0)) (upd f 0 none) := by
       refine ⟨by rw [List.length_set]; exact h.len,fun c hc => by rw [hhead c hc]; exact h.hd c hc, ?_,fun x r e => (by rw [upd_self] at e; exact (nomatch e)),fun y q e => ?_,fun x r y q e => (by rw [upd_self] at e; exact (nomatch e))⟩
       · rw [hhead 0 (by decide),hcure _ hl0.1]
         exact h.v.slot hil (hcur _ hl0.1) _
       · rw [upd_ne _ _ (by decide)] at e
         have R := h.rd y q e
         have hya := bit_nat R.a
         have hyb := bit_nat R.b
         refine ⟨R.a,R.b,fun e1 => ?_,fun e1 => ?_,fun e1 => ?_⟩
         · rw [hcure _ hya.1]
           exact (R.p1 e1).slot hil (hcur _ hya.1) _
         · rw [hcure _ hya.1,hhead 1 (by decide)]
           exact ⟨(R.p2 e1).1,(R.p2 e1).2.slot hil (hcur _ hya.1) _⟩
         · rw [hhead 1 (by decide)]
           refine ⟨(R.p3 e1).1,(R.p3 e1).2.slot hil (fun e2 => ?_) _⟩
           have e3 : xa = y.a := by omega
           have e4 := h.both _ _ y q hf e e1 (by simp only; omega) (by simp only; omega) e3
           rw [<- e3] at e4
           omega
      have hP := c2.step hil hlt
      have hupd : ∀ v,upd (upd f 0 none) 0 v = upd f 0 v := fun v => by
       funext j
       unfold upd
       split <;> rfl
      have hboth : ∀ (x' : Core),x'.phase = 2 \/ x'.phase = 3 -> x'.a = xa -> ∀ y q,(upd f 0 none) 1 = some (y,q) -> FourB (ws.set (4 + ((2 * xa.toNat + xb.toNat) * w + xi.toNat)) (r.getD xi.toNat 0)) x' y := fun x' hp' ha' y q e e1 e2 e3 e4 => by
       rw [upd_ne _ _ (by decide)] at e
       have hya := bit_nat (h.rd y q e).a
       rw [hhead _ (by omega)]
       exact h.both _ _ y q hf e e1 (by simp only; omega) (by simp only; omega) (by rw [<- e4,ha'])
      by_cases hlast : w <= xi.toNat + 1
      · simp only [if_pos hlast]
        refine ⟨⟨hw.symm,t2,t3,rfl,rfl,t6⟩, ?_,fun h0 => by omega⟩
        rw [if_neg (by simp), ← hupd]
        refine hI.setW ⟨w1,w2,w3,fun e => (by cases e),fun e => ?_,fun e => (by cases e)⟩ (hboth _ (.inr rfl) rfl) _
        simp only
        rw [hhead _ (by omega)]
        exact ⟨c1,by rwa [show xi.toNat + 1 = w by omega] at hP⟩
      · simp only [if_neg hlast]
        refine ⟨⟨hw.symm,t2,t3,rfl,rfl,t6⟩, ?_,fun h0 => by omega⟩
        rw [if_neg (by simp), ← hupd]
        refine hI.setW ⟨w1,w2,w3,fun e => ?_,fun e => by simp only at e; omega,fun e => by simp only at e; omega⟩ (hboth _ (.inl p2) rfl) _
        simp only
        rw [hhead _ (by omega)]
        exact ⟨c1,by rw [show ((xi.toNat : Int) + 1).toNat = xi.toNat + 1 by omega]; exact hP⟩
    by_cases p3 : xph = 3
    · simp only [if_neg p0,if_neg p1,if_neg p2,if_pos p3]
      obtain ⟨c1,c2⟩ := w5 p3
      have hwh : Wh ok (ws.set (2 + xa.toNat) (xb.toNat : Int)) 4 w (2 * xa.toNat + xb.toNat) := (c2.whole w1).head (by omega) _
      have hlt : 2 + xa.toNat < ws.length := by have := h.len; omega
      have hg : ∀ c,(ws.set (2 + xa.toNat) (xb.toNat : Int)).getD c 0 = if c = 2 + xa.toNat then xb else ws.getD c 0 := fun c => by
       rw [getD_set]
       by_cases e : c = 2 + xa.toNat
       · rw [if_pos ⟨e.symm,hlt⟩,if_pos e]; exact hb.2.symm
       · rw [if_neg (fun e2 => e e2.1.symm),if_neg e]
      have hcw : ∀ p,p < 2 -> Wh ok ws 4 w (cur ws p) -> Wh ok (ws.set (2 + xa.toNat) (xb.toNat : Int)) 4 w (cur (ws.set (2 + xa.toNat) (xb.toNat : Int)) p) := fun p hp hv => by
       by_cases e : p = xa.toNat
       · unfold cur
         rw [hg,if_pos (by omega),e]
         exact hwh
       · have : cur (ws.set (2 + xa.toNat) (xb.toNat : Int)) p = cur ws p := by
          unfold cur
          rw [hg,if_neg (by omega)]
         rw [this]
         exact hv.head (by omega) _
      have hl0 := bit_nat (h.hd 0 (by decide))
      refine ⟨⟨hw.symm,t2,t3,rfl,rfl,t6⟩, ?_,fun h0 => by omega⟩
      rw [if_neg (by simp)]
      refine ⟨by rw [List.length_set]; exact h.len,fun c hc => ?_, ?_,fun x' r' e => ?_,fun y q e => ?_,fun x' r' y q e e2 => ?_⟩
      · rw [hg]
        split
        · exact w3
        · exact h.hd c hc
      · rw [hg,if_neg (by omega)]
        exact hcw _ hl0.1 h.v
      · rw [upd_self] at e
        cases e
        refine ⟨w1,w2,w3,fun e => (by cases e),fun e => (by cases e),fun e => ⟨?_,hwh⟩⟩
        simp only
        rw [hg,if_pos rfl]
      · rw [upd_ne _ _ (by decide)] at e
        have R := h.rd y q e
        have hya := bit_nat R.a
        refine ⟨R.a,R.b,fun e1 => hcw _ hya.1 (R.p1 e1),fun e1 => ⟨?_,hcw _ hya.1 (R.p2 e1).2⟩,fun e1 => ⟨?_,(R.p3 e1).2.head (by omega) _⟩⟩
        · rw [hg,if_neg (by omega)]; exact (R.p2 e1).1
        · rw [hg,if_neg (by omega)]; exact (R.p3 e1).1
      · rw [upd_self] at e
        cases e
        intro e1 e2 e3
        simp only at e3
        omega
    · simp only [if_neg p0,if_neg p1,if_neg p2,if_neg p3]
      have hp4 : xph = 4 := by
       rcases four.Shape.op hs with ⟨_,h3,_⟩ | ⟨h3,_⟩
       · simp only at h3; omega
       · cases h3
      obtain ⟨c1,c2⟩ := w6 hp4
      have hlt : 0 < ws.length := by have := h.len; omega
      have hg : ∀ c,(ws.set 0 (xa.toNat : Int)).getD c 0 = if c = 0 then xa else ws.getD c 0 := fun c => by
       rw [getD_set]
       by_cases e : c = 0
       · rw [if_pos ⟨e.symm,hlt⟩,if_pos e]; exact ha.2.symm
       · rw [if_neg (fun e2 => e e2.1.symm),if_neg e]
      have hce : ∀ p,cur (ws.set 0 (xa.toNat : Int)) p = cur ws p := fun p => by
       unfold cur
       rw [hg,if_neg (by omega)]
      refine ⟨⟨hw.symm,t2,t3,rfl,rfl,t6⟩, ?_,fun h0 => by omega⟩
      rw [if_pos (by simp)]
      refine ⟨by rw [List.length_set]; exact h.len,fun c hc => ?_, ?_,fun x' r' e => (by rw [upd_self] at e; exact (nomatch e)),fun y q e => ?_,fun x' r' y q e e2 => (by rw [upd_self] at e; exact (nomatch e))⟩
      · rw [hg]
        split
        · exact w2
        · exact h.hd c hc
      · rw [hg,if_pos rfl,hce]
        have e : cur ws xa.toNat = 2 * xa.toNat + xb.toNat := by
         unfold cur
         rw [c1]
        rw [e]
        exact c2.head (by omega) _
      · rw [upd_ne _ _ (by decide)] at e
        have R := h.rd y q e
        refine ⟨R.a,R.b,fun e1 => by rw [hce]; exact (R.p1 e1).head (by omega) _,fun e1 => ⟨?_,by rw [hce]; exact (R.p2 e1).2.head (by omega) _⟩,fun e1 => ⟨?_,(R.p3 e1).2.head (by omega) _⟩⟩
        · rw [hg,if_neg (by omega)]; exact (R.p2 e1).1
        · rw [hg,if_neg (by omega)]; exact (R.p3 e1).1
  · rw [if_neg (by decide)] at t5
    subst t5
    have R := h.rd _ _ hf
    obtain ⟨y1,y2,y3,y4,y5⟩ := R
    have ha := bit_nat y1
    have hb := bit_nat y2
    simp only at y1 y2 y3 y4 y5 ha hb
    simp only [four.step,if_neg (show ¬ (1 : Int) = 2 by decide),four.stepR,hz,Nat.zero_add,hwn]
    by_cases p0 : xph = 0
    · simp only [if_pos p0]
      refine ⟨⟨hw.symm,t2,t3,rfl,rfl,t6⟩, ?_,fun _ e => by simp at e⟩
      rw [if_neg (by simp)]
      have h0 := h.hd 0 (by decide)
      have e : ws.getD 0 0 % 2 = ws.getD 0 0 := by unfold bit at h0; omega
      rw [e]
      exact h.setR ⟨h0,y2,fun _ => h.v,fun e => (by cases e),fun e => (by cases e)⟩ (fun x r e e1 => (by cases e1)) _
    by_cases p1 : xph = 1
    · simp only [if_neg p0,if_pos p1]
      refine ⟨⟨hw.symm,t2,t3,rfl,rfl,t6⟩, ?_,fun _ e => by simp at e⟩
      rw [if_neg (by simp)]
      have hlt : 1 < ws.length := by have := h.len; omega
      have hg : ∀ c,(ws.set 1 (xa.toNat : Int)).getD c 0 = if c = 1 then xa else ws.getD c 0 := fun c => by
       rw [getD_set]
       by_cases e : c = 1
       · rw [if_pos ⟨e.symm,hlt⟩,if_pos e]; exact ha.2.symm
       · rw [if_neg (fun e2 => e e2.1.symm),if_neg e]
      have hce : ∀ p,cur (ws.set 1 (xa.toNat : Int)) p = cur ws p := fun p => by
       unfold cur
       rw [hg,if_neg (by omega)]
      refine ⟨by rw [List.length_set]; exact h.len,fun c hc => ?_, ?_,fun x' r' e => ?_,fun y q e => ?_,fun x' r' y q e e2 => ?_⟩
      · rw [hg]
        split
        · exact y1
        · exact h.hd c hc
      · rw [hg,if_neg (by decide),hce]
        exact h.v.head (by omega) _
      · rw [upd_ne _ _ (by decide)] at e
        have W := h.wr x' r' e
        have hxa := bit_nat W.a
        refine ⟨W.good,W.a,W.b,fun e1 => ⟨?_,(W.p2 e1).2.head (by omega) _⟩,fun e1 => ⟨?_,(W.p3 e1).2.head (by omega) _⟩,fun e1 => ⟨?_,(W.p4 e1).2.head (by omega) _⟩⟩
        · rw [hg,if_neg (by omega)]; exact (W.p2 e1).1
        · rw [hg,if_neg (by omega)]; exact (W.p3 e1).1
        · rw [hg,if_neg (by omega)]; exact (W.p4 e1).1
      · rw [upd_self] at e
        cases e
        refine ⟨y1,y2,fun e => (by cases e),fun e => ⟨?_, ?_⟩,fun e => (by cases e)⟩
        · rw [hg,if_pos rfl]
        · rw [hce]; exact (y3 p1).head (by omega) _
      · rw [upd_self] at e2
        cases e2
        intro e1
        cases e1
    by_cases p2 : xph = 2
    · simp only [if_neg p0,if_neg p1,if_pos p2]
      obtain ⟨c1,c2⟩ := y4 p2
      refine ⟨⟨hw.symm,t2,t3,rfl,rfl,t6⟩, ?_,fun _ e => by simp at e⟩
      rw [if_neg (by simp)]
      have h0 := h.hd (2 + xa.toNat) (by omega)
      have e : ws.getD (2 + xa.toNat) 0 % 2 = ws.getD (2 + xa.toNat) 0 := by unfold bit at h0; omega
      rw [e]
      have hlen : r = [] := by
       rcases four.Shape.op hs with ⟨h3,_⟩ | ⟨_,_,h3⟩
       · cases h3
       · have := h3 rfl
         simp only at this
         rw [if_neg (by omega)] at this
         exact List.eq_nil_of_length_eq_zero (by omega)
      subst hlen
      refine h.setR ⟨y1,h0,fun e => (by cases e),fun e => (by cases e),fun _ => ⟨c1, ?_⟩⟩ (fun x r e e1 e2 e3 e4 => rfl) _
      exact c2.rd
    · simp only [if_neg p0,if_neg p1,if_neg p2]
      have hp3 : xph = 3 := by
       rcases four.Shape.op hs with ⟨h3,_⟩ | ⟨_,h3,_⟩
       · cases h3
       · simp only at h3; omega
      obtain ⟨c1,c2⟩ := y5 hp3
      have hil : xi.toNat < w := by omega
      have hidx : 4 + (2 * xa.toNat + xb.toNat) * w + xi.toNat = 4 + ((2 * xa.toNat + xb.toNat) * w + xi.toNat) := by omega
      rw [hidx]
      have hR := c2.step hil
      by_cases hlast : w <= xi.toNat + 1
      · simp only [if_pos hlast]
        refine ⟨⟨hw.symm,t2,t3,rfl,rfl,t6⟩, ?_,fun _ _ _ => ?_⟩
        · rw [if_pos (by simp)]
          exact h.endR _
        · rw [show xi.toNat + 1 = w by omega] at hR
          exact hR.all
      · simp only [if_neg hlast]
        refine ⟨⟨hw.symm,t2,t3,rfl,rfl,t6⟩, ?_,fun _ e => by simp at e⟩
        rw [if_neg (by simp)]
        refine h.setR ⟨y1,y2,fun e => by simp only at e; omega,fun e => by simp only at e; omega,fun _ => ⟨c1, ?_⟩⟩ (fun x r e e1 e2 e3 e4 => ?_) _
        · rw [show ((xi.toNat : Int) + 1).toNat = xi.toNat + 1 by omega]
          exact hR
        · have hq := h.both x r _ _ e hf
          exact hq hp3 e2 e3 e4
structure SeqW (ok : List Int -> Prop) (w : Nat) (T : Nat) (ws : List Int) (x : Core) (r : List Int) : Prop where
 good : ok r
 ev : x.phase <= 1 -> T % 2 = 0
 p1 : x.phase = 1 -> x.a = ws.getD 0 0
 p2 : x.phase = 2 -> T % 2 = 1 /\ ws.getD 0 0 = (x.a + 1) % 4294967296 /\ Pt ws 1 w 0 x.i.toNat r
 p3 : x.phase = 3 -> T % 2 = 1 /\ ws.getD 0 0 = (x.a + 1) % 4294967296 /\ Pt ws 1 w 0 w r
structure SeqR (ok : List Int -> Prop) (w : Nat) (st : Int) (T : Nat) (ws : List Int) (y : Core) (q : List Int) : Prop where
 p1 : y.phase = 1 -> ∃ Ta : Nat,Ta <= T /\ y.a = (st + Ta) % 4294967296 /\ Ta % 2 = 0 /\ (Ta = T -> Rd ok ws 1 w 0 y.i.toNat q)
 p2 : y.phase = 2 -> ∃ Ta : Nat,Ta <= T /\ y.a = (st + Ta) % 4294967296 /\ Ta % 2 = 0 /\ (Ta = T -> Rd ok ws 1 w 0 w q)
structure SeqI (ok : List Int -> Prop) (w : Nat) (st : Int) (T : Nat) (n : Nat) (ws : List Int) (f : Nat -> Option (Core × List Int)) : Prop where
 len : ws.length = 1 + w
 ctr : ws.getD 0 0 = (st + T) % 4294967296
 few : T <= n
 idle : f 0 = none -> T % 2 = 0
 v : T % 2 = 0 -> Wh ok ws 1 w 0
 wr : ∀ x r,f 0 = some (x,r) -> SeqW ok w T ws x r
 rd : ∀ (j : Nat) y q,f (j + 1) = some (y,q) -> SeqR ok w st T ws y q
section
variable {ok : List Int -> Prop} {w n T : Nat} {st : Int} {ws : List Int} {f : Nat -> Option (Core × List Int)}
theorem SeqR.p0 {y : Core} {q : List Int} (h : y.phase = 0) : SeqR ok w st T ws y q := ⟨fun e => by omega,fun e => by omega⟩
theorem SeqI.setR (h : SeqI ok w st T n ws f) {j : Nat} {y' : Core} {q' : List Int} (hr : SeqR ok w st T ws y' q') {m : Nat} (hm : n <= m) : SeqI ok w st T m ws (upd f (j + 1) (some (y',q'))) :=
 ⟨h.len,h.ctr,by have := h.few; omega,fun e => h.idle (by rw [upd_ne _ _ (by omega)] at e; exact e),h.v,fun x r e => h.wr x r (by rw [upd_ne _ _ (by omega)] at e; exact e),fun k y q e => by
  by_cases hk : k = j
  · subst hk
    rw [upd_self] at e
    injection e with e
    injection e with e1 e2
    subst e1 e2
    exact hr
  · exact h.rd k y q (by rw [upd_ne _ _ (by omega)] at e; exact e)⟩
theorem SeqI.endR (h : SeqI ok w st T n ws f) (j : Nat) {m : Nat} (hm : n <= m) : SeqI ok w st T m ws (upd f (j + 1) none) :=
 ⟨h.len,h.ctr,by have := h.few; omega,fun e => h.idle (by rw [upd_ne _ _ (by omega)] at e; exact e),h.v,fun x r e => h.wr x r (by rw [upd_ne _ _ (by omega)] at e; exact e),fun k y q e => by
  by_cases hk : k = j
  · subst hk
    rw [upd_self] at e
    cases e
  · exact h.rd k y q (by rw [upd_ne _ _ (by omega)] at e; exact e)⟩
end
theorem seq_start {ok : List Int -> Prop} {w : Nat} {st : Int} (hst : 0 <= st /\ st <= 4294967295) {ini : List Int} (hi : ini.length = w) (hok : ok ini) : SeqI ok w st 0 0 (seq.layL st ini) (fun _ => none) := by
 refine ⟨by unfold seq.layL; simp; omega, ?_,Nat.le_refl _,fun _ => rfl,fun _ => ⟨ini,hok,hi,fun i hil => ?_⟩,fun x r e => (nomatch e),fun j y q e => (nomatch e)⟩
 · show st = _
   omega
 · rw [show 1 + (0 * w + i) = i + 1 by omega]
   rfl
set_option maxHeartbeats 2000000 in
theorem seq_alg {o : ObV} (hR : RightO 3 o) {ok : List Int -> Prop} {w : Nat} (hw : o.w = (w : Int)) : Alg 2 1 seq.K o ok (fun n ws f => ∃ T,SeqI ok w o.st T n ws f) where
 begW := by
  rintro n ws f r ⟨T,h⟩ hf hr hl
  refine ⟨T,h.len,h.ctr,h.few,fun e => (by rw [upd_self] at e; exact (nomatch e)),h.v,fun x r' e => ?_,fun j y q e => h.rd j y q (by rw [upd_ne _ _ (by omega)] at e; exact e)⟩
  rw [upd_self] at e
  cases e
  exact ⟨hr,fun _ => h.idle hf,fun e => (by cases e),fun e => (by cases e),fun e => (by cases e)⟩
 begR := by
  rintro n ws f j ⟨T,h⟩ hf hj
  exact ⟨T,h.setR (.p0 rfl) (Nat.le_refl _)⟩
 step := by
  rintro n ws f k ⟨xk,xw,xs,xc,xst,xia,xil,xic,xwr,xra,xrl,xrc,xop,xrd,xph,xi,xtr,xa,xb,xus,xm,xba,xsz,xcode,xsteps,xov⟩ r mv ⟨T,h⟩ hn hf hs hov hst hk hsz hws
  have hst2 : o.st % 2 = 0 := by have := hR.2.2; simp [rightB] at this; omega
  obtain ⟨t1,t2,t3,t4,t5,t6⟩ := hst
  have hi := seq.Shape.i hs hov
  simp only at t1 t2 t3 t4 t5 t6 hov hi
  subst hov t4
  rw [hw] at t1
  subst t1
  show Stat o 2 1 k (seq.step _ _ _ _).1 /\ (∃ T,SeqI ok w o.st T (n + 1) (seq.step _ _ _ _).2.2 (upd f k (if (seq.step _ _ _ _).1.over = true then none else some ((seq.step _ _ _ _).1,(seq.step _ _ _ _).2.1)))) /\ (0 < k -> (seq.step _ _ _ _).1.over = true -> (seq.step _ _ _ _).1.code = 0 -> ok (seq.step _ _ _ _).2.1)
  have hz : Int.toNat 0 = 0 := rfl
  have hwn : ((w : Int)).toNat = w := Int.toNat_natCast w
  have hfew := h.few
  have hctr := h.ctr
  have hlen := h.len
  match k,hf,hk,t5,t6 with
  | 0,hf,hk,t5,t6 =>
   rw [if_pos rfl] at t5
   subst t5
   obtain ⟨w1,w2,w3,w4,w5⟩ := h.wr _ _ hf
   simp only at w1 w2 w3 w4 w5
   have hrlen : r.length = w := by
    rcases seq.Shape.op hs with ⟨_,_,h3⟩ | ⟨h3,_⟩
    · have := h3 rfl; simp only at this; omega
    · cases h3
   have hg : ∀ v,(ws.set 0 v).getD 0 0 = v := fun v => by rw [getD_set,if_pos ⟨rfl,by omega⟩]
   simp only [seq.step,if_pos,seq.stepW,hz,Nat.zero_add,hwn]
   by_cases p0 : xph = 0
   · simp only [if_pos p0]
     refine ⟨⟨hw.symm,t2,t3,rfl,rfl,t6⟩,⟨T,h.len,h.ctr,by omega,fun e => ?_,h.v,fun x' r' e => ?_,fun j y q e => h.rd j y q (by rw [upd_ne _ _ (by omega)] at e; exact e)⟩,fun h0 => by omega⟩
     · rw [upd_self,if_neg (by simp)] at e; cases e
     · rw [upd_self,if_neg (by simp)] at e
       cases e
       exact ⟨w1,fun _ => w2 (by omega),fun _ => rfl,fun e => (by cases e),fun e => (by cases e)⟩
   by_cases p1 : xph = 1
   · simp only [if_neg p0,if_pos p1]
     have ha := w3 p1
     have hev := w2 (by omega)
     refine ⟨⟨hw.symm,t2,t3,rfl,rfl,t6⟩,⟨T + 1,by rw [List.length_set]; exact h.len, ?_,by omega,fun e => ?_,fun e => by omega,fun x' r' e => ?_,fun j y q e => ?_⟩,fun h0 => by omega⟩
     · rw [hg,ha,hctr]
       omega
     · rw [upd_self,if_neg (by simp)] at e; cases e
     · rw [upd_self,if_neg (by simp)] at e
       cases e
       exact ⟨w1,fun e => by simp only at e; omega,fun e => (by cases e),fun _ => ⟨by omega,hg _,Pt.zero hrlen⟩,fun e => (by cases e)⟩
     · rw [upd_ne _ _ (by omega)] at e
       have R := h.rd j y q e
       refine ⟨fun e1 => ?_,fun e1 => ?_⟩
       · obtain ⟨Ta,b1,b2,b3,b4⟩ := R.p1 e1
         exact ⟨Ta,by omega,b2,b3,fun e2 => by omega⟩
       · obtain ⟨Ta,b1,b2,b3,b4⟩ := R.p2 e1
         exact ⟨Ta,by omega,b2,b3,fun e2 => by omega⟩
   by_cases p2 : xph = 2
   · simp only [if_neg p0,if_neg p1,if_pos p2]
     obtain ⟨c1,c2,c3⟩ := w4 p2
     have hil : xi.toNat < w := by omega
     have hidx : 1 + xi.toNat = 1 + (0 * w + xi.toNat) := by omega
     rw [hidx]
     have hP := c3.step hil (by omega)
     have hh : (ws.set (1 + (0 * w + xi.toNat)) (r.getD xi.toNat 0)).getD 0 0 = ws.getD 0 0 := by rw [getD_set,if_neg (fun e => by omega)]
     have hrd : ∀ (j : Nat) y q,f (j + 1) = some (y,q) -> SeqR ok w o.st T (ws.set (1 + (0 * w + xi.toNat)) (r.getD xi.toNat 0)) y q := fun j y q e => by
      have R := h.rd j y q e
      refine ⟨fun e1 => ?_,fun e1 => ?_⟩
      · obtain ⟨Ta,b1,b2,b3,b4⟩ := R.p1 e1
        exact ⟨Ta,b1,b2,b3,fun e2 => by omega⟩
      · obtain ⟨Ta,b1,b2,b3,b4⟩ := R.p2 e1
        exact ⟨Ta,b1,b2,b3,fun e2 => by omega⟩
     by_cases hlast : w <= xi.toNat + 1
     · simp only [if_pos hlast]
       refine ⟨⟨hw.symm,t2,t3,rfl,rfl,t6⟩,⟨T,by rw [List.length_set]; exact h.len,by rw [hh]; exact h.ctr,by omega,fun e => ?_,fun e => by omega,fun x' r' e => ?_,fun j y q e => hrd j y q (by rw [upd_ne _ _ (by omega)] at e; exact e)⟩,fun h0 => by omega⟩
       · rw [upd_self,if_neg (by simp)] at e; cases e
       · rw [upd_self,if_neg (by simp)] at e
         cases e
         exact ⟨w1,fun e => by simp only at e; omega,fun e => (by cases e),fun e => (by cases e),fun _ => ⟨c1,by rw [hh]; exact c2,by rwa [show xi.toNat + 1 = w by omega] at hP⟩⟩
     · simp only [if_neg hlast]
       refine ⟨⟨hw.symm,t2,t3,rfl,rfl,t6⟩,⟨T,by rw [List.length_set]; exact h.len,by rw [hh]; exact h.ctr,by omega,fun e => ?_,fun e => by omega,fun x' r' e => ?_,fun j y q e => hrd j y q (by rw [upd_ne _ _ (by omega)] at e; exact e)⟩,fun h0 => by omega⟩
       · rw [upd_self,if_neg (by simp)] at e; cases e
       · rw [upd_self,if_neg (by simp)] at e
         cases e
         exact ⟨w1,fun e => by simp only at e; omega,fun e => by simp only at e; omega,fun _ => ⟨c1,by rw [hh]; exact c2,by rw [show ((xi.toNat : Int) + 1).toNat = xi.toNat + 1 by omega]; exact hP⟩,fun e => by simp only at e; omega⟩
   · simp only [if_neg p0,if_neg p1,if_neg p2]
     have hp3 : xph = 3 := by
      rcases seq.Shape.op hs with ⟨_,h3,_⟩ | ⟨h3,_⟩
      · simp only at h3; omega
      · cases h3
     obtain ⟨c1,c2,c3⟩ := w5 hp3
     refine ⟨⟨hw.symm,t2,t3,rfl,rfl,t6⟩,⟨T + 1,by rw [List.length_set]; exact h.len, ?_,by omega,fun e => by omega,fun e => (c3.whole w1).head (by omega) _,fun x' r' e => ?_,fun j y q e => ?_⟩,fun h0 => by omega⟩
     · rw [hg]
       omega
     · rw [upd_self,if_pos (by simp)] at e; cases e
     · rw [upd_ne _ _ (by omega)] at e
       have R := h.rd j y q e
       refine ⟨fun e1 => ?_,fun e1 => ?_⟩
       · obtain ⟨Ta,b1,b2,b3,b4⟩ := R.p1 e1
         exact ⟨Ta,by omega,b2,b3,fun e2 => by omega⟩
       · obtain ⟨Ta,b1,b2,b3,b4⟩ := R.p2 e1
         exact ⟨Ta,by omega,b2,b3,fun e2 => by omega⟩
  | k + 1,hf,hk,t5,t6 =>
   rw [if_neg (by omega)] at t5
   subst t5
   have R := h.rd _ _ _ hf
   obtain ⟨y1,y2⟩ := R
   simp only at y1 y2
   have hrlen : xph ≠ 1 -> xph ≠ 2 -> r = [] := fun n1 n2 => by
    rcases seq.Shape.op hs with ⟨h3,_⟩ | ⟨_,_,h3⟩
    · cases h3
    · have := h3 rfl
      simp only at this
      rw [if_neg n1,if_neg n2] at this
      exact List.eq_nil_of_length_eq_zero (by omega)
   have hfail : ∀ x : Core,(seq.failC x).w = x.w /\ (seq.failC x).s = x.s /\ (seq.failC x).rl = x.rl /\ (seq.failC x).base = x.base /\ (seq.failC x).op = x.op /\ (seq.failC x).reader = x.reader /\ (seq.failC x).phase = 0 /\ ((seq.failC x).over = true -> (seq.failC x).code = 1 \/ x.over = true) := fun x => by
    unfold seq.failC
    split
    · exact ⟨rfl,rfl,rfl,rfl,rfl,rfl,rfl,fun _ => .inl rfl⟩
    · exact ⟨rfl,rfl,rfl,rfl,rfl,rfl,rfl,fun e => .inr e⟩
   have hfin : ∀ (x : Core) (q : List Int),x.phase = 0 -> ∃ T,SeqI ok w o.st T (n + 1) ws (upd f (k + 1) (if x.over = true then none else some (x,q))) := fun x q hx => by
    split
    · exact ⟨T,h.endR k (by omega)⟩
    · exact ⟨T,h.setR (.p0 hx) (by omega)⟩
   simp only [seq.step,if_neg (show ¬ (1 : Int) = 2 by decide),seq.stepR,hz,Nat.zero_add,hwn]
   by_cases p0 : xph = 0
   · simp only [if_pos p0]
     by_cases hodd : ws.getD 0 0 % 2 = 1
     · simp only [if_pos hodd]
       obtain ⟨f1,f2,f3,f4,f5,f6,f7,f8⟩ := hfail { k := xk,w := (w : Int),s := xs,c := xc,st := xst,ia := xia,il := xil,ic := xic,wr := xwr,ra := xra,rl := xrl,rc := xrc,op := 1,reader := xrd,phase := xph,i := xi,tries := xtr,a := ws.getD 0 0,b := xb,used := xus,m := mv,base := 0,size := xsz,code := xcode,steps := xsteps + 1,over := false }
       refine ⟨⟨f1.trans hw.symm,f2.trans t2,f3.trans t3,f4,f5,fun h0 => f6.trans (t6 h0)⟩,hfin _ _ f7,fun _ e1 e2 => ?_⟩
       rcases f8 e1 with e3 | e3
       · rw [e3] at e2; cases e2
       · cases e3
     · simp only [if_neg hodd]
       have hT : T % 2 = 0 := by omega
       refine ⟨⟨hw.symm,t2,t3,rfl,rfl,t6⟩,⟨T, ?_⟩,fun _ e => by simp at e⟩
       rw [if_neg (by simp),hrlen (by omega) (by omega)]
       refine h.setR ⟨fun _ => ⟨T,Nat.le_refl _,h.ctr,hT,fun _ => ?_⟩,fun e => (by cases e)⟩ (by omega)
       exact (h.v hT).rd
   by_cases p1 : xph = 1
   · simp only [if_neg p0,if_pos p1]
     obtain ⟨Ta,b1,b2,b3,b4⟩ := y1 p1
     have hil : xi.toNat < w := by omega
     have hidx : 1 + xi.toNat = 1 + (0 * w + xi.toNat) := by omega
     rw [hidx]
     by_cases hlast : w <= xi.toNat + 1
     · simp only [if_pos hlast]
       refine ⟨⟨hw.symm,t2,t3,rfl,rfl,t6⟩,⟨T, ?_⟩,fun _ e => by simp at e⟩
       rw [if_neg (by simp)]
       exact h.setR ⟨fun e => (by cases e),fun _ => ⟨Ta,b1,b2,b3,fun e => by have := (b4 e).step hil; rwa [show xi.toNat + 1 = w by omega] at this⟩⟩ (by omega)
     · simp only [if_neg hlast]
       refine ⟨⟨hw.symm,t2,t3,rfl,rfl,t6⟩,⟨T, ?_⟩,fun _ e => by simp at e⟩
       rw [if_neg (by simp)]
       exact h.setR ⟨fun _ => ⟨Ta,b1,b2,b3,fun e => by rw [show ((xi.toNat : Int) + 1).toNat = xi.toNat + 1 by omega]; exact (b4 e).step hil⟩,fun e => by simp only at e; omega⟩ (by omega)
   · simp only [if_neg p0,if_neg p1]
     have hp2 : xph = 2 := by
      rcases seq.Shape.op hs with ⟨h3,_⟩ | ⟨_,h3,_⟩
      · cases h3
      · simp only at h3; omega
     obtain ⟨Ta,b1,b2,b3,b4⟩ := y2 hp2
     by_cases hq : ws.getD 0 0 = xa
     · simp only [if_pos hq]
       refine ⟨⟨hw.symm,t2,t3,rfl,rfl,t6⟩,⟨T, ?_⟩,fun _ _ _ => ?_⟩
       · rw [if_pos (by simp)]
         exact h.endR k (by omega)
       · exact (b4 (by omega)).all
     · simp only [if_neg hq]
       obtain ⟨f1,f2,f3,f4,f5,f6,f7,f8⟩ := hfail { k := xk,w := (w : Int),s := xs,c := xc,st := xst,ia := xia,il := xil,ic := xic,wr := xwr,ra := xra,rl := xrl,rc := xrc,op := 1,reader := xrd,phase := xph,i := xi,tries := xtr,a := xa,b := xb,used := xus,m := mv,base := 0,size := xsz,code := xcode,steps := xsteps + 1,over := false }
       refine ⟨⟨f1.trans hw.symm,f2.trans t2,f3.trans t3,f4,f5,fun h0 => f6.trans (t6 h0)⟩,hfin _ _ f7,fun _ e1 e2 => ?_⟩
       rcases f8 e1 with e3 | e3
       · rw [e3] at e2; cases e2
       · cases e3
def slt (s : Nat) (st : Int) (t : Nat) : Nat := ((st + t) % (s : Int)).toNat
theorem slt_lt {s : Nat} (hs : 0 < s) (st : Int) (t : Nat) : slt s st t < s := by
 have h1 := Int.emod_nonneg (st + t) (show (s : Int) ≠ 0 by omega)
 have h2 := Int.emod_lt_of_pos (st + t) (show (0 : Int) < s by omega)
 unfold slt
 omega
theorem slt_ne {s : Nat} (hs : 0 < s) (st : Int) {t u : Nat} (h1 : t < u) (h2 : u < t + s) : slt s st t ≠ slt s st u := fun e => by
 have a1 := Int.emod_nonneg (st + t) (show (s : Int) ≠ 0 by omega)
 have a2 := Int.emod_nonneg (st + u) (show (s : Int) ≠ 0 by omega)
 unfold slt at e
 have e1 : (st + t) % (s : Int) = (st + u) % (s : Int) := by omega
 have e2 : ((st + u) - (st + t)) % (s : Int) = 0 := by rw [Int.sub_emod,e1,Int.sub_self]; exact Int.zero_emod _
 rw [show st + (u : Int) - (st + t) = (u : Int) - t by omega,Int.emod_eq_of_lt (by omega) (by omega)] at e2
 omega
theorem slt_of {s : Nat} {k st : Int} {t : Nat} {a : Int} (h : a = (st + t) % ((s : Int) * k)) : (a % (s : Int)).toNat = slt s st t := by
 rw [h,Int.emod_emod_of_dvd _ ⟨k,rfl⟩]
 rfl
structure RingW (ok : List Int -> Prop) (s w : Nat) (st : Int) (T : Nat) (ws : List Int) (x : Core) (r : List Int) : Prop where
 good : ok r
 p1 : x.phase = 1 -> x.a = (st + (T + 1 : Nat)) % ((s : Int) * 1048576) /\ Pt ws 1 w (slt s st (T + 1)) x.i.toNat r
 p2 : x.phase = 2 -> x.a = (st + (T + 1 : Nat)) % ((s : Int) * 1048576) /\ Pt ws 1 w (slt s st (T + 1)) w r
structure RingR (ok : List Int -> Prop) (s w : Nat) (st : Int) (T : Nat) (ws : List Int) (y : Core) (q : List Int) : Prop where
 p1 : y.phase = 1 -> ∃ Ta : Nat,Ta <= T /\ y.a = (st + Ta) % ((s : Int) * 1048576) /\ (T + 1 < Ta + s -> Rd ok ws 1 w (slt s st Ta) y.i.toNat q)
 p2 : y.phase = 2 -> ∃ Ta : Nat,Ta <= T /\ y.a = (st + Ta) % ((s : Int) * 1048576) /\ (T + 1 < Ta + s -> Rd ok ws 1 w (slt s st Ta) w q)
structure RingI (ok : List Int -> Prop) (s w : Nat) (st : Int) (T : Nat) (n : Nat) (ws : List Int) (f : Nat -> Option (Core × List Int)) : Prop where
 len : ws.length = 1 + s * w
 ctr : ws.getD 0 0 = (st + T) % ((s : Int) * 1048576)
 few : T <= n
 v : ∀ t : Nat,t <= T -> T + 1 < t + s -> Wh ok ws 1 w (slt s st t)
 wr : ∀ x r,f 0 = some (x,r) -> RingW ok s w st T ws x r
 rd : ∀ (j : Nat) y q,f (j + 1) = some (y,q) -> RingR ok s w st T ws y q
section
variable {ok : List Int -> Prop} {s w n T : Nat} {st : Int} {ws : List Int} {f : Nat -> Option (Core × List Int)}
theorem RingR.p0 {y : Core} {q : List Int} (h : y.phase = 0) : RingR ok s w st T ws y q := ⟨fun e => by omega,fun e => by omega⟩
theorem RingI.setR (h : RingI ok s w st T n ws f) {j : Nat} {y' : Core} {q' : List Int} (hr : RingR ok s w st T ws y' q') {m : Nat} (hm : n <= m) : RingI ok s w st T m ws (upd f (j + 1) (some (y',q'))) :=
 ⟨h.len,h.ctr,by have := h.few; omega,h.v,fun x r e => h.wr x r (by rw [upd_ne _ _ (by omega)] at e; exact e),fun k y q e => by
  by_cases hk : k = j
  · subst hk
    rw [upd_self] at e
    injection e with e
    injection e with e1 e2
    subst e1 e2
    exact hr
  · exact h.rd k y q (by rw [upd_ne _ _ (by omega)] at e; exact e)⟩
theorem RingI.endR (h : RingI ok s w st T n ws f) (j : Nat) {m : Nat} (hm : n <= m) : RingI ok s w st T m ws (upd f (j + 1) none) :=
 ⟨h.len,h.ctr,by have := h.few; omega,h.v,fun x r e => h.wr x r (by rw [upd_ne _ _ (by omega)] at e; exact e),fun k y q e => by
  by_cases hk : k = j
  · subst hk
    rw [upd_self] at e
    cases e
  · exact h.rd k y q (by rw [upd_ne _ _ (by omega)] at e; exact e)⟩
end
theorem ring_begin {ok : List Int -> Prop} {s w : Nat} {st : Int} (hs : 2 <= s) (hst : 0 <= st /\ st < (s : Int) * 1048576) {ini : List Int} (hi : ini.length = w) (hok : ok ini) : RingI ok s w st 0 0 (ring.layL s w st ini) (fun _ => none) := by
 have h3 := Int.emod_nonneg st (show (s : Int) ≠ 0 by omega)
 have h4 := Int.emod_lt_of_pos st (show (0 : Int) < s by omega)
 have hj : (st % (s : Int)).toNat < s := by omega
 have hb := Nat.mul_le_mul_right w (show (st % (s : Int)).toNat + 1 <= s from hj)
 rw [Nat.add_mul,Nat.one_mul] at hb
 have e1 : (1 + (s : Int) * (w : Int)).toNat = 1 + s * w := by
  rw [show (1 + (s : Int) * (w : Int)) = ((1 + s * w : Nat) : Int) by rw [Int.natCast_add,Int.natCast_mul]; rfl,Int.toNat_natCast]
 have hlen : 1 + (st % (s : Int)).toNat * w + ini.length <= ((List.replicate (1 + s * w) (0 : Int)).set 0 st).length := by rw [List.length_set,List.length_replicate]; omega
 have hL : ring.layL s w st ini = mem.fillL ((List.replicate (1 + s * w) 0).set 0 st) (1 + (st % (s : Int)).toNat * w) ini := by
  unfold ring.layL
  rw [from_1 (by omega),e1]
 rw [hL]
 refine ⟨by rw [mem.fillL_length _ _ _ hlen,List.length_set,List.length_replicate], ?_,Nat.le_refl _,fun t ht _ => ?_,fun x r e => (nomatch e),fun j y q e => (nomatch e)⟩
 · rw [fill_getD _ _ _ _ hlen,if_pos (by omega),getD_set,if_pos ⟨rfl,by rw [List.length_replicate]; omega⟩,Int.emod_eq_of_lt (by omega) (by omega)]
   omega
 · obtain rfl : t = 0 := by omega
   have e0 : slt s st 0 = (st % (s : Int)).toNat := by unfold slt; rw [show st + ((0 : Nat) : Int) = st by omega]
   rw [e0]
   refine ⟨ini,hok,hi,fun i hil => ?_⟩
   rw [fill_getD _ _ _ _ hlen,if_neg (by omega),if_pos (by omega)]
   congr 1
   omega
set_option maxHeartbeats 2000000 in
theorem ring_alg {o : ObV} (hR : RightO 4 o) {ok : List Int -> Prop} {s w : Nat} (hsz : o.s = (s : Int)) (hw : o.w = (w : Int)) : Alg 2 1 ring.K o ok (fun n ws f => ∃ T,RingI ok s w o.st T n ws f) where
 begW := by
  rintro n ws f r ⟨T,h⟩ hf hr hl
  refine ⟨T,h.len,h.ctr,h.few,h.v,fun x r' e => ?_,fun j y q e => h.rd j y q (by rw [upd_ne _ _ (by omega)] at e; exact e)⟩
  rw [upd_self] at e
  cases e
  exact ⟨hr,fun e => (by cases e),fun e => (by cases e)⟩
 begR := by
  rintro n ws f j ⟨T,h⟩ hf hj
  exact ⟨T,h.setR (.p0 rfl) (Nat.le_refl _)⟩
 step := by
  rintro n ws f k ⟨xk,xw,xs,xc,xst,xia,xil,xic,xwr,xra,xrl,xrc,xop,xrd,xph,xi,xtr,xa,xb,xus,xm,xba,xsz,xcode,xsteps,xov⟩ r mv ⟨T,h⟩ hn hf hs hov hst hk hsize hws
  have hs2 : 2 <= s := by have := hR.2.2; simp [rightB] at this; omega
  obtain ⟨t1,t2,t3,t4,t5,t6⟩ := hst
  have hi := ring.Shape.i hs hov
  simp only at t1 t2 t3 t4 t5 t6 hov hi
  subst hov t4
  rw [hw] at t1
  rw [hsz] at t2
  subst t1 t2
  show Stat o 2 1 k (ring.step _ _ _ _).1 /\ (∃ T,RingI ok s w o.st T (n + 1) (ring.step _ _ _ _).2.2 (upd f k (if (ring.step _ _ _ _).1.over = true then none else some ((ring.step _ _ _ _).1,(ring.step _ _ _ _).2.1)))) /\ (0 < k -> (ring.step _ _ _ _).1.over = true -> (ring.step _ _ _ _).1.code = 0 -> ok (ring.step _ _ _ _).2.1)
  have hz : Int.toNat 0 = 0 := rfl
  have hwn : ((w : Int)).toNat = w := Int.toNat_natCast w
  have hfew := h.few
  have hctr := h.ctr
  have hlen := h.len
  have hM0 : (s : Int) * 1048576 ≠ 0 := by omega
  have hM : 0 < (s : Int) * 1048576 := by omega
  have hf1 := from_1 (w := w) (show 0 < s by omega) xa
  have hmod : ∀ z : Int,z % ((s : Int) * 1048576) % ((s : Int) * 1048576) = z % ((s : Int) * 1048576) := fun z => Int.emod_emod_of_dvd _ ⟨1,by omega⟩
  match k,hf,hk,t5,t6 with
  | 0,hf,hk,t5,t6 =>
   rw [if_pos rfl] at t5
   subst t5
   obtain ⟨w1,w4,w5⟩ := h.wr _ _ hf
   simp only at w1 w4 w5
   have hrlen : r.length = w := by
    rcases ring.Shape.op hs with ⟨_,_,h3⟩ | ⟨h3,_⟩
    · have := h3 rfl; simp only at this; omega
    · cases h3
   have hg : ∀ v,(ws.set 0 v).getD 0 0 = v := fun v => by rw [getD_set,if_pos ⟨rfl,by omega⟩]
   simp only [ring.step,if_pos,ring.stepW,ring.fromN,hz,Nat.zero_add,hwn,hf1]
   by_cases p0 : xph = 0
   · simp only [if_pos p0]
     refine ⟨⟨hw.symm,hsz.symm,t3,rfl,rfl,t6⟩,⟨T,h.len,h.ctr,by omega,h.v,fun x' r' e => ?_,fun j y q e => h.rd j y q (by rw [upd_ne _ _ (by omega)] at e; exact e)⟩,fun h0 => by omega⟩
     rw [upd_self,if_neg (by simp)] at e
     cases e
     refine ⟨w1,fun _ => ⟨?_,Pt.zero hrlen⟩,fun e => (by cases e)⟩
     show (ws.getD 0 0 % _ + 1) % _ = _
     rw [hctr,hmod,addm]
     congr 1
     omega
   by_cases p1 : xph = 1
   · simp only [if_neg p0,if_pos p1]
     obtain ⟨c1,c2⟩ := w4 p1
     have hsl : (xa % (s : Int)).toNat = slt s o.st (T + 1) := slt_of c1
     rw [hsl]
     have hslt := slt_lt (s := s) (by omega) o.st (T + 1)
     have hil : xi.toNat < w := by omega
     rw [Nat.add_assoc]
     have hlt : 1 + (slt s o.st (T + 1) * w + xi.toNat) < ws.length := by
      have := idx_lt hslt hil
      omega
     have hP := c2.step hil hlt
     have hh : (ws.set (1 + (slt s o.st (T + 1) * w + xi.toNat)) (r.getD xi.toNat 0)).getD 0 0 = ws.getD 0 0 := by rw [getD_set,if_neg (fun e => by omega)]
     have hv : ∀ t : Nat,t <= T -> T + 1 < t + s -> Wh ok (ws.set (1 + (slt s o.st (T + 1) * w + xi.toNat)) (r.getD xi.toNat 0)) 1 w (slt s o.st t) := fun t h1 h2 =>
      (h.v t h1 h2).slot hil (fun e => slt_ne (s := s) (by omega) o.st (show t < T + 1 by omega) (by omega) e.symm) _
     have hrd : ∀ (j : Nat) y q,f (j + 1) = some (y,q) -> RingR ok s w o.st T (ws.set (1 + (slt s o.st (T + 1) * w + xi.toNat)) (r.getD xi.toNat 0)) y q := fun j y q e => by
      have R := h.rd j y q e
      refine ⟨fun e1 => ?_,fun e1 => ?_⟩
      · obtain ⟨Ta,b1,b2,b4⟩ := R.p1 e1
        exact ⟨Ta,b1,b2,fun e2 => (b4 e2).slot hil (fun e => slt_ne (s := s) (by omega) o.st (show Ta < T + 1 by omega) (by omega) e.symm) _⟩
      · obtain ⟨Ta,b1,b2,b4⟩ := R.p2 e1
        exact ⟨Ta,b1,b2,fun e2 => (b4 e2).slot hil (fun e => slt_ne (s := s) (by omega) o.st (show Ta < T + 1 by omega) (by omega) e.symm) _⟩
     by_cases hlast : w <= xi.toNat + 1
     · simp only [if_pos hlast]
       refine ⟨⟨hw.symm,hsz.symm,t3,rfl,rfl,t6⟩,⟨T,by rw [List.length_set]; exact h.len,by rw [hh]; exact h.ctr,by omega,hv,fun x' r' e => ?_,fun j y q e => hrd j y q (by rw [upd_ne _ _ (by omega)] at e; exact e)⟩,fun h0 => by omega⟩
       rw [upd_self,if_neg (by simp)] at e
       cases e
       exact ⟨w1,fun e => (by cases e),fun _ => ⟨c1,by rwa [show xi.toNat + 1 = w by omega] at hP⟩⟩
     · simp only [if_neg hlast]
       refine ⟨⟨hw.symm,hsz.symm,t3,rfl,rfl,t6⟩,⟨T,by rw [List.length_set]; exact h.len,by rw [hh]; exact h.ctr,by omega,hv,fun x' r' e => ?_,fun j y q e => hrd j y q (by rw [upd_ne _ _ (by omega)] at e; exact e)⟩,fun h0 => by omega⟩
       rw [upd_self,if_neg (by simp)] at e
       cases e
       exact ⟨w1,fun _ => ⟨c1,by rw [show ((xi.toNat : Int) + 1).toNat = xi.toNat + 1 by omega]; exact hP⟩,fun e => by simp only at e; omega⟩
   · simp only [if_neg p0,if_neg p1]
     have hp2 : xph = 2 := by
      rcases ring.Shape.op hs with ⟨_,h3,_⟩ | ⟨h3,_⟩
      · simp only at h3; omega
      · cases h3
     obtain ⟨c1,c2⟩ := w5 hp2
     refine ⟨⟨hw.symm,hsz.symm,t3,rfl,rfl,t6⟩,⟨T + 1,by rw [List.length_set]; exact h.len, ?_,by omega,fun t h1 h2 => ?_,fun x' r' e => ?_,fun j y q e => ?_⟩,fun h0 => by omega⟩
     · rw [hg]; exact c1
     · by_cases ht : t = T + 1
       · subst ht
         exact (c2.whole w1).head (by omega) _
       · exact (h.v t (by omega) (by omega)).head (by omega) _
     · rw [upd_self,if_pos (by simp)] at e; cases e
     · rw [upd_ne _ _ (by omega)] at e
       have R := h.rd j y q e
       refine ⟨fun e1 => ?_,fun e1 => ?_⟩
       · obtain ⟨Ta,b1,b2,b4⟩ := R.p1 e1
         exact ⟨Ta,by omega,b2,fun e2 => (b4 (by omega)).head (by omega) _⟩
       · obtain ⟨Ta,b1,b2,b4⟩ := R.p2 e1
         exact ⟨Ta,by omega,b2,fun e2 => (b4 (by omega)).head (by omega) _⟩
  | k + 1,hf,hk,t5,t6 =>
   rw [if_neg (by omega)] at t5
   subst t5
   have R := h.rd _ _ _ hf
   obtain ⟨y1,y2⟩ := R
   simp only at y1 y2
   have hrlen : xph ≠ 1 -> xph ≠ 2 -> r = [] := fun n1 n2 => by
    rcases ring.Shape.op hs with ⟨h3,_⟩ | ⟨_,_,h3⟩
    · cases h3
    · have := h3 rfl
      simp only at this
      rw [if_neg n1,if_neg n2] at this
      exact List.eq_nil_of_length_eq_zero (by omega)
   have hfail : ∀ x : Core,(ring.failC x).w = x.w /\ (ring.failC x).s = x.s /\ (ring.failC x).rl = x.rl /\ (ring.failC x).base = x.base /\ (ring.failC x).op = x.op /\ (ring.failC x).reader = x.reader /\ (ring.failC x).phase = 0 /\ ((ring.failC x).over = true -> (ring.failC x).code = 1 \/ x.over = true) := fun x => by
    unfold ring.failC
    split
    · exact ⟨rfl,rfl,rfl,rfl,rfl,rfl,rfl,fun _ => .inl rfl⟩
    · exact ⟨rfl,rfl,rfl,rfl,rfl,rfl,rfl,fun e => .inr e⟩
   have hfin : ∀ (x : Core) (q : List Int),x.phase = 0 -> ∃ T,RingI ok s w o.st T (n + 1) ws (upd f (k + 1) (if x.over = true then none else some (x,q))) := fun x q hx => by
    split
    · exact ⟨T,h.endR k (by omega)⟩
    · exact ⟨T,h.setR (.p0 hx) (by omega)⟩
   simp only [ring.step,if_neg (show ¬ (1 : Int) = 2 by decide),ring.stepR,ring.fromN,hz,Nat.zero_add,hwn,hf1]
   by_cases p0 : xph = 0
   · simp only [if_pos p0]
     refine ⟨⟨hw.symm,hsz.symm,t3,rfl,rfl,t6⟩,⟨T, ?_⟩,fun _ e => by simp at e⟩
     rw [if_neg (by simp),hrlen (by omega) (by omega)]
     refine h.setR ⟨fun _ => ⟨T,Nat.le_refl _, ?_,fun _ => ?_⟩,fun e => (by cases e)⟩ (by omega)
     · show ws.getD 0 0 % _ = _
       rw [hctr,hmod]
     · exact (h.v T (Nat.le_refl _) (by omega)).rd
   by_cases p1 : xph = 1
   · simp only [if_neg p0,if_pos p1]
     obtain ⟨Ta,b1,b2,b4⟩ := y1 p1
     rw [slt_of b2,Nat.add_assoc]
     have hil : xi.toNat < w := by omega
     by_cases hlast : w <= xi.toNat + 1
     · simp only [if_pos hlast]
       refine ⟨⟨hw.symm,hsz.symm,t3,rfl,rfl,t6⟩,⟨T, ?_⟩,fun _ e => by simp at e⟩
       rw [if_neg (by simp)]
       exact h.setR ⟨fun e => (by cases e),fun _ => ⟨Ta,b1,b2,fun e => by have := (b4 e).step hil; rwa [show xi.toNat + 1 = w by omega] at this⟩⟩ (by omega)
     · simp only [if_neg hlast]
       refine ⟨⟨hw.symm,hsz.symm,t3,rfl,rfl,t6⟩,⟨T, ?_⟩,fun _ e => by simp at e⟩
       rw [if_neg (by simp)]
       exact h.setR ⟨fun _ => ⟨Ta,b1,b2,fun e => by rw [show ((xi.toNat : Int) + 1).toNat = xi.toNat + 1 by omega]; exact (b4 e).step hil⟩,fun e => by simp only at e; omega⟩ (by omega)
   · simp only [if_neg p0,if_neg p1]
     have hp2 : xph = 2 := by
      rcases ring.Shape.op hs with ⟨h3,_⟩ | ⟨_,h3,_⟩
      · cases h3
      · simp only at h3; omega
     obtain ⟨Ta,b1,b2,b4⟩ := y2 hp2
     have hgap : word.gapU xa (ws.getD 0 0 % ((s : Int) * 1048576)) ((s : Int) * 1048576) = (T : Int) - Ta := by
      rw [gap_eq _ _ _ hM0,hctr,hmod,b2,subm,show (o.st + (T : Int)) % ((s : Int) * 1048576) - (o.st + Ta) = (o.st + (T : Int)) % ((s : Int) * 1048576) + (-(o.st + Ta)) by omega,addm,show o.st + (T : Int) + -(o.st + Ta) = (T : Int) - Ta by omega]
      exact Int.emod_eq_of_lt (by omega) (by omega)
     rw [hgap]
     by_cases hq : (T : Int) - Ta < (s : Int) - 1
     · simp only [if_pos hq]
       refine ⟨⟨hw.symm,hsz.symm,t3,rfl,rfl,t6⟩,⟨T, ?_⟩,fun _ _ _ => ?_⟩
       · rw [if_pos (by simp)]
         exact h.endR k (by omega)
       · exact (b4 (by omega)).all
     · simp only [if_neg hq]
       obtain ⟨f1,f2,f3,f4,f5,f6,f7,f8⟩ := hfail { k := xk,w := (w : Int),s := (s : Int),c := xc,st := xst,ia := xia,il := xil,ic := xic,wr := xwr,ra := xra,rl := xrl,rc := xrc,op := 1,reader := xrd,phase := xph,i := xi,tries := xtr,a := xa,b := xb,used := xus,m := mv,base := 0,size := xsz,code := xcode,steps := xsteps + 1,over := false }
       refine ⟨⟨f1.trans hw.symm,f2.trans hsz.symm,f3.trans t3,f4,f5,fun h0 => f6.trans (t6 h0)⟩,hfin _ _ f7,fun _ e1 e2 => ?_⟩
       rcases f8 e1 with e3 | e3
       · rw [e3] at e2; cases e2
       · cases e3
structure FifoW (ok : List Int -> Prop) (s w : Nat) (st : Int) (H P : Nat) (ws : List Int) (x : Core) (r : List Int) : Prop where
 good : ok r
 a : x.phase ≠ 0 -> x.a = (st + P) % (2 * (s : Int))
 p2 : x.phase = 2 -> P < H + s /\ Pt ws 2 w (slt s st P) x.i.toNat r
 p3 : x.phase = 3 -> P < H + s /\ Pt ws 2 w (slt s st P) w r
structure FifoR (ok : List Int -> Prop) (s w : Nat) (st : Int) (H P : Nat) (ws : List Int) (y : Core) (q : List Int) : Prop where
 a : y.phase ≠ 0 -> y.a = (st + H) % (2 * (s : Int))
 p2 : y.phase = 2 -> H < P /\ Rd ok ws 2 w (slt s st H) y.i.toNat q
 p3 : y.phase = 3 -> H < P /\ Rd ok ws 2 w (slt s st H) w q
structure FifoI (ok : List Int -> Prop) (s w : Nat) (st : Int) (H P : Nat) (ws : List Int) (f : Nat -> Option (Core × List Int)) : Prop where
 len : ws.length = 2 + s * w
 c0 : ws.getD 0 0 = (st + H) % (2 * (s : Int))
 c1 : ws.getD 1 0 = (st + P) % (2 * (s : Int))
 le : H <= P /\ P <= H + s
 v : ∀ t : Nat,H <= t -> t < P -> Wh ok ws 2 w (slt s st t)
 wr : ∀ x r,f 0 = some (x,r) -> FifoW ok s w st H P ws x r
 rd : ∀ y q,f 1 = some (y,q) -> FifoR ok s w st H P ws y q
section
variable {ok : List Int -> Prop} {s w H P : Nat} {st : Int} {ws : List Int} {f : Nat -> Option (Core × List Int)}
theorem FifoI.setR (h : FifoI ok s w st H P ws f) {y' : Core} {q' : List Int} (hr : FifoR ok s w st H P ws y' q') : FifoI ok s w st H P ws (upd f 1 (some (y',q'))) :=
 ⟨h.len,h.c0,h.c1,h.le,h.v,fun x r e => h.wr x r (by rw [upd_ne _ _ (by decide)] at e; exact e),fun y q e => by
  rw [upd_self] at e
  injection e with e
  injection e with e1 e2
  subst e1 e2
  exact hr⟩
theorem FifoI.endR (h : FifoI ok s w st H P ws f) : FifoI ok s w st H P ws (upd f 1 none) :=
 ⟨h.len,h.c0,h.c1,h.le,h.v,fun x r e => h.wr x r (by rw [upd_ne _ _ (by decide)] at e; exact e),fun y q e => by
  rw [upd_self] at e
  cases e⟩
theorem FifoI.setW (h : FifoI ok s w st H P ws f) {x' : Core} {r' : List Int} (hr : FifoW ok s w st H P ws x' r') : FifoI ok s w st H P ws (upd f 0 (some (x',r'))) :=
 ⟨h.len,h.c0,h.c1,h.le,h.v,fun x r e => by
  rw [upd_self] at e
  injection e with e
  injection e with e1 e2
  subst e1 e2
  exact hr,fun y q e => h.rd y q (by rw [upd_ne _ _ (by decide)] at e; exact e)⟩
theorem FifoI.endW (h : FifoI ok s w st H P ws f) : FifoI ok s w st H P ws (upd f 0 none) :=
 ⟨h.len,h.c0,h.c1,h.le,h.v,fun x r e => (by
  rw [upd_self] at e
  cases e),fun y q e => h.rd y q (by rw [upd_ne _ _ (by decide)] at e; exact e)⟩
end
theorem upd_upd (f : Nat -> Option (Core × List Int)) (k : Nat) (a b : Option (Core × List Int)) : upd (upd f k a) k b = upd f k b := by
 funext j
 unfold upd
 split <;> rfl
theorem fifo_begin {ok : List Int -> Prop} {s w : Nat} {st : Int} (hs : 1 <= s) (hst : 0 <= st /\ st < 2 * (s : Int)) : FifoI ok s w st 0 0 (fifo.layL s w st) (fun _ => none) := by
 have e1 : (2 + (s : Int) * (w : Int)).toNat = 2 + s * w := by
  rw [show (2 + (s : Int) * (w : Int)) = ((2 + s * w : Nat) : Int) by rw [Int.natCast_add,Int.natCast_mul]; rfl,Int.toNat_natCast]
 have hm : (st + ((0 : Nat) : Int)) % (2 * (s : Int)) = st := by rw [show st + ((0 : Nat) : Int) = st by omega,Int.emod_eq_of_lt hst.1 hst.2]
 refine ⟨by unfold fifo.layL; rw [List.length_set,List.length_set,List.length_replicate,e1], ?_, ?_,⟨Nat.le_refl _,by omega⟩,fun t h1 h2 => by omega,fun x r e => (nomatch e),fun y q e => (nomatch e)⟩
 · rw [hm]
   unfold fifo.layL
   rw [e1,getD_set,if_neg (fun e => by omega),getD_set,if_pos ⟨rfl,by rw [List.length_replicate]; omega⟩]
 · rw [hm]
   unfold fifo.layL
   rw [e1,getD_set,if_pos ⟨rfl,by rw [List.length_set,List.length_replicate]; omega⟩]
set_option maxHeartbeats 2000000 in
theorem fifo_alg {o : ObV} (hR : RightO 6 o) {ok : List Int -> Prop} {s w : Nat} (hsz : o.s = (s : Int)) (hw : o.w = (w : Int)) : Alg 3 4 fifo.K o ok (fun n ws f => ∃ H P,FifoI ok s w o.st H P ws f) where
 begW := by
  rintro n ws f r ⟨H,P,h⟩ hf hr hl
  exact ⟨H,P,h.setW ⟨hr,fun e => absurd rfl e,fun e => (by cases e),fun e => (by cases e)⟩⟩
 begR := by
  rintro n ws f j ⟨H,P,h⟩ hf hj
  have hrl : o.rl = 1 := by have := hR.2.2; simp [rightB] at this; omega
  obtain rfl : j = 0 := by omega
  exact ⟨H,P,h.setR ⟨fun e => absurd rfl e,fun e => (by cases e),fun e => (by cases e)⟩⟩
 step := by
  rintro n ws f k ⟨xk,xw,xs,xc,xst,xia,xil,xic,xwr,xra,xrl,xrc,xop,xrd,xph,xi,xtr,xa,xb,xus,xm,xba,xsz,xcode,xsteps,xov⟩ r mv ⟨H,P,h⟩ hn hf hs hov hst hk hsize hws
  have hrl : o.rl = 1 := by have := hR.2.2; simp [rightB] at this; omega
  have hs1 : 1 <= s := by have := hR.2.2; simp [rightB] at this; omega
  obtain ⟨t1,t2,t3,t4,t5,t6⟩ := hst
  have hi := fifo.Shape.i hs hov
  simp only at t1 t2 t3 t4 t5 t6 hov hi
  subst hov t4
  rw [hw] at t1
  rw [hsz] at t2
  subst t1 t2
  show Stat o 3 4 k (fifo.step _ _ _ _).1 /\ (∃ H P,FifoI ok s w o.st H P (fifo.step _ _ _ _).2.2 (upd f k (if (fifo.step _ _ _ _).1.over = true then none else some ((fifo.step _ _ _ _).1,(fifo.step _ _ _ _).2.1)))) /\ (0 < k -> (fifo.step _ _ _ _).1.over = true -> (fifo.step _ _ _ _).1.code = 0 -> ok (fifo.step _ _ _ _).2.1)
  have hz : Int.toNat 0 = 0 := rfl
  have hwn : ((w : Int)).toNat = w := Int.toNat_natCast w
  have hc0 := h.c0
  have hc1 := h.c1
  have hlen := h.len
  have hle := h.le
  have hM0 : 2 * (s : Int) ≠ 0 := by omega
  have hf1 := from_2 (w := w) (show 0 < s by omega) xa
  have hmod : ∀ z : Int,z % (2 * (s : Int)) % (2 * (s : Int)) = z % (2 * (s : Int)) := fun z => Int.emod_emod_of_dvd _ ⟨1,by omega⟩
  have hsl : ∀ t : Nat,xa = (o.st + t) % (2 * (s : Int)) -> (xa % (s : Int)).toNat = slt s o.st t := fun t e => by
   rw [e,Int.emod_emod_of_dvd _ ⟨2,by omega⟩]; rfl
  have hg0 : ∀ v,(ws.set 0 v).getD 0 0 = v := fun v => by rw [getD_set,if_pos ⟨rfl,by omega⟩]
  have hg1 : ∀ v,(ws.set 1 v).getD 1 0 = v := fun v => by rw [getD_set,if_pos ⟨rfl,by omega⟩]
  have hg01 : ∀ v,(ws.set 0 v).getD 1 0 = ws.getD 1 0 := fun v => by rw [getD_set,if_neg (fun e => by omega)]
  have hg10 : ∀ v,(ws.set 1 v).getD 0 0 = ws.getD 0 0 := fun v => by rw [getD_set,if_neg (fun e => by omega)]
  obtain rfl | rfl : k = 0 \/ k = 1 := by omega
  · rw [if_pos rfl] at t5
    subst t5
    obtain ⟨w1,w2,w4,w5⟩ := h.wr _ _ hf
    simp only at w1 w2 w4 w5
    have hrlen : r.length = w := by
     rcases fifo.Shape.op hs with ⟨_,_,h3⟩ | ⟨h3,_⟩
     · have := h3 rfl; simp only at this; omega
     · cases h3
    simp only [fifo.step,if_pos,fifo.stepW,fifo.fromN,hz,Nat.zero_add,hwn,hf1]
    by_cases p0 : xph = 0
    · simp only [if_pos p0]
      refine ⟨⟨hw.symm,hsz.symm,t3,rfl,rfl,t6⟩,⟨H,P, ?_⟩,fun h0 => by omega⟩
      rw [if_neg (by simp)]
      refine h.setW ⟨w1,fun _ => ?_,fun e => (by cases e),fun e => (by cases e)⟩
      show ws.getD 1 0 % _ = _
      rw [hc1,hmod]
    by_cases p1 : xph = 1
    · simp only [if_neg p0,if_pos p1]
      have ha := w2 p0
      have hgap : word.gapU (ws.getD 0 0 % (2 * (s : Int))) xa (2 * (s : Int)) = (P : Int) - H := by
       rw [gap_eq _ _ _ hM0,hc0,hmod,ha,subm,show (o.st + (P : Int)) % (2 * (s : Int)) - (o.st + H) = (o.st + (P : Int)) % (2 * (s : Int)) + (-(o.st + H)) by omega,addm,show o.st + (P : Int) + -(o.st + H) = (P : Int) - H by omega]
       exact Int.emod_eq_of_lt (by omega) (by omega)
      rw [hgap]
      by_cases hq : (s : Int) <= (P : Int) - H
      · simp only [if_pos hq]
        refine ⟨⟨hw.symm,hsz.symm,t3,rfl,rfl,t6⟩,⟨H,P, ?_⟩,fun h0 => by omega⟩
        rw [if_pos (by simp)]
        exact h.endW
      · simp only [if_neg hq]
        refine ⟨⟨hw.symm,hsz.symm,t3,rfl,rfl,t6⟩,⟨H,P, ?_⟩,fun h0 => by omega⟩
        rw [if_neg (by simp)]
        exact h.setW ⟨w1,fun _ => ha,fun _ => ⟨by omega,Pt.zero hrlen⟩,fun e => (by cases e)⟩
    by_cases p2 : xph = 2
    · simp only [if_neg p0,if_neg p1,if_pos p2]
      have ha := w2 p0
      obtain ⟨c1,c2⟩ := w4 p2
      rw [hsl P ha]
      have hslt := slt_lt (s := s) (by omega) o.st P
      have hil : xi.toNat < w := by omega
      rw [Nat.add_assoc]
      have hlt : 2 + (slt s o.st P * w + xi.toNat) < ws.length := by
       have := idx_lt hslt hil
       omega
      have hP := c2.step hil hlt
      have hh : ∀ c,c < 2 -> (ws.set (2 + (slt s o.st P * w + xi.toNat)) (r.getD xi.toNat 0)).getD c 0 = ws.getD c 0 := fun c hc => by rw [getD_set,if_neg (fun e => by omega)]
      have hI : FifoI ok s w o.st H P (ws.set (2 + (slt s o.st P * w + xi.toNat)) (r.getD xi.toNat 0)) (upd f 0 none) := by
       refine ⟨by rw [List.length_set]; exact h.len,by rw [hh 0 (by decide)]; exact hc0,by rw [hh 1 (by decide)]; exact hc1,hle,fun t h1 h2 => (h.v t h1 h2).slot hil (fun e => slt_ne (s := s) (by omega) o.st (show t < P by omega) (by omega) e.symm) _,fun x' r' e => (by rw [upd_self] at e; exact (nomatch e)),fun y q e => ?_⟩
       rw [upd_ne _ _ (by decide)] at e
       have R := h.rd y q e
       exact ⟨R.a,fun e1 => ⟨(R.p2 e1).1,(R.p2 e1).2.slot hil (fun e => slt_ne (s := s) (by omega) o.st (R.p2 e1).1 (by omega) e.symm) _⟩,fun e1 => ⟨(R.p3 e1).1,(R.p3 e1).2.slot hil (fun e => slt_ne (s := s) (by omega) o.st (R.p3 e1).1 (by omega) e.symm) _⟩⟩
      by_cases hlast : w <= xi.toNat + 1
      · simp only [if_pos hlast]
        refine ⟨⟨hw.symm,hsz.symm,t3,rfl,rfl,t6⟩,⟨H,P, ?_⟩,fun h0 => by omega⟩
        rw [if_neg (by simp), ← upd_upd f 0 none]
        exact hI.setW ⟨w1,fun _ => ha,fun e => (by cases e),fun _ => ⟨c1,by rwa [show xi.toNat + 1 = w by omega] at hP⟩⟩
      · simp only [if_neg hlast]
        refine ⟨⟨hw.symm,hsz.symm,t3,rfl,rfl,t6⟩,⟨H,P, ?_⟩,fun h0 => by omega⟩
        rw [if_neg (by simp), ← upd_upd f 0 none]
        exact hI.setW ⟨w1,fun _ => ha,fun _ => ⟨c1,by rw [show ((xi.toNat : Int) + 1).toNat = xi.toNat + 1 by omega]; exact hP⟩,fun e => by simp only at e; omega⟩
    · simp only [if_neg p0,if_neg p1,if_neg p2]
      have hp3 : xph = 3 := by
       rcases fifo.Shape.op hs with ⟨_,h3,_⟩ | ⟨h3,_⟩
       · simp only at h3; omega
       · cases h3
      have ha := w2 p0
      obtain ⟨c1,c2⟩ := w5 hp3
      refine ⟨⟨hw.symm,hsz.symm,t3,rfl,rfl,t6⟩,⟨H,P + 1,by rw [List.length_set]; exact h.len,by rw [hg10]; exact hc0, ?_,by omega,fun t h1 h2 => ?_,fun x' r' e => ?_,fun y q e => ?_⟩,fun h0 => by omega⟩
      · rw [hg1,ha,addm]
        congr 1
        omega
      · by_cases ht : t = P
        · subst ht
          exact (c2.whole w1).head (by omega) _
        · exact (h.v t h1 (by omega)).head (by omega) _
      · rw [upd_self,if_pos (by simp)] at e; cases e
      · rw [upd_ne _ _ (by decide)] at e
        have R := h.rd y q e
        exact ⟨R.a,fun e1 => ⟨by have := (R.p2 e1).1; omega,(R.p2 e1).2.head (by omega) _⟩,fun e1 => ⟨by have := (R.p3 e1).1; omega,(R.p3 e1).2.head (by omega) _⟩⟩
  · rw [if_neg (by decide)] at t5
    subst t5
    obtain ⟨y1,y2,y3⟩ := h.rd _ _ hf
    simp only at y1 y2 y3
    have hrlen : xph ≠ 2 -> xph ≠ 3 -> r = [] := fun n1 n2 => by
     rcases fifo.Shape.op hs with ⟨h3,_⟩ | ⟨_,_,h3⟩
     · cases h3
     · have := h3 rfl
       simp only at this
       rw [if_neg n1,if_neg n2] at this
       exact List.eq_nil_of_length_eq_zero (by omega)
    simp only [fifo.step,if_neg (show ¬ (4 : Int) = 3 by decide),fifo.stepR,fifo.fromN,hz,Nat.zero_add,hwn,hf1]
    by_cases p0 : xph = 0
    · simp only [if_pos p0]
      refine ⟨⟨hw.symm,hsz.symm,t3,rfl,rfl,t6⟩,⟨H,P, ?_⟩,fun _ e => by simp at e⟩
      rw [if_neg (by simp)]
      refine h.setR ⟨fun _ => ?_,fun e => (by cases e),fun e => (by cases e)⟩
      show ws.getD 0 0 % _ = _
      rw [hc0,hmod]
    by_cases p1 : xph = 1
    · simp only [if_neg p0,if_pos p1]
      have ha := y1 p0
      by_cases hq : ws.getD 1 0 % (2 * (s : Int)) = xa
      · simp only [if_pos hq]
        refine ⟨⟨hw.symm,hsz.symm,t3,rfl,rfl,t6⟩,⟨H,P, ?_⟩,fun _ _ e => by simp at e⟩
        rw [if_pos (by simp)]
        exact h.endR
      · simp only [if_neg hq]
        have hHP : H < P := by
         rcases Nat.lt_or_ge H P with h1 | h1
         · exact h1
         · exfalso
           have e : H = P := by omega
           subst e
           exact hq (by rw [hc1,hmod,ha])
        refine ⟨⟨hw.symm,hsz.symm,t3,rfl,rfl,t6⟩,⟨H,P, ?_⟩,fun _ e => by simp at e⟩
        rw [if_neg (by simp),hrlen (by omega) (by omega)]
        refine h.setR ⟨fun _ => ha,fun _ => ⟨hHP, ?_⟩,fun e => (by cases e)⟩
        exact (h.v H (Nat.le_refl _) hHP).rd
    by_cases p2 : xph = 2
    · simp only [if_neg p0,if_neg p1,if_pos p2]
      have ha := y1 p0
      obtain ⟨b1,b4⟩ := y2 p2
      rw [hsl H ha,Nat.add_assoc]
      have hil : xi.toNat < w := by omega
      by_cases hlast : w <= xi.toNat + 1
      · simp only [if_pos hlast]
        refine ⟨⟨hw.symm,hsz.symm,t3,rfl,rfl,t6⟩,⟨H,P, ?_⟩,fun _ e => by simp at e⟩
        rw [if_neg (by simp)]
        exact h.setR ⟨fun _ => ha,fun e => (by cases e),fun _ => ⟨b1,by have := b4.step hil; rwa [show xi.toNat + 1 = w by omega] at this⟩⟩
      · simp only [if_neg hlast]
        refine ⟨⟨hw.symm,hsz.symm,t3,rfl,rfl,t6⟩,⟨H,P, ?_⟩,fun _ e => by simp at e⟩
        rw [if_neg (by simp)]
        exact h.setR ⟨fun _ => ha,fun _ => ⟨b1,by rw [show ((xi.toNat : Int) + 1).toNat = xi.toNat + 1 by omega]; exact b4.step hil⟩,fun e => by simp only at e; omega⟩
    · simp only [if_neg p0,if_neg p1,if_neg p2]
      have hp3 : xph = 3 := by
       rcases fifo.Shape.op hs with ⟨h3,_⟩ | ⟨_,h3,_⟩
       · cases h3
       · simp only at h3; omega
      have ha := y1 p0
      obtain ⟨b1,b4⟩ := y3 hp3
      refine ⟨⟨hw.symm,hsz.symm,t3,rfl,rfl,t6⟩,⟨H + 1,P,by rw [List.length_set]; exact h.len, ?_,by rw [hg01]; exact hc1,by omega,fun t h1 h2 => (h.v t (by omega) h2).head (by omega) _,fun x' r' e => ?_,fun y q e => ?_⟩,fun _ _ _ => b4.all⟩
      · rw [hg0,ha,addm]
        congr 1
        omega
      · rw [upd_ne _ _ (by decide)] at e
        have W := h.wr x' r' e
        exact ⟨W.good,W.a,fun e1 => ⟨by have := (W.p2 e1).1; omega,(W.p2 e1).2.head (by omega) _⟩,fun e1 => ⟨by have := (W.p3 e1).1; omega,(W.p3 e1).2.head (by omega) _⟩⟩
      · rw [upd_self,if_pos (by simp)] at e; cases e
def Hs (u s : Int) : Prop := Nat.testBit u.toNat s.toNat = true
theorem Hs.mark {u s : Int} (h : 0 <= s /\ s <= 20) : Hs (bitm.markU u s) s := by
 unfold Hs bitm.markU
 rw [Int.toNat_natCast,Nat.testBit_or,show (min s 20).toNat = s.toNat by omega,Nat.testBit_two_pow]
 simp
theorem Hs.keep {u t : Int} (h : Hs u t) (s : Int) : Hs (bitm.markU u s) t := by
 unfold Hs bitm.markU at *
 rw [Int.toNat_natCast,Nat.testBit_or,h]
 rfl
theorem free_not {u : Int} (h : 0 <= u /\ u < 2097152) : ¬ Hs u (bitm.freeU u) := by
 unfold Hs bitm.freeU
 rw [Int.toNat_natCast]
 generalize hx : 18446744073709551615 - u.toNat = x
 have hx0 : 0 < x := by omega
 obtain ⟨m,hm,hodd⟩ := Lib.ctzFrom_spec 64 x hx0 (by rw [show (2 : Nat) ^ 64 = 18446744073709551616 from by decide]; omega)
 have hc : Lib.ctz 64 x = Lib.ctzFrom 64 x := by unfold Lib.ctz; rw [if_neg (by omega)]
 rw [hc]
 generalize Lib.ctzFrom 64 x = c at *
 have e1 : Nat.testBit x c = true := by
  rw [hm,Nat.testBit_two_pow_mul]
  simp
 have e2 : x = 2 ^ 64 - (u.toNat + 1) := by
  have : (2 : Nat) ^ 64 = 18446744073709551616 := by decide
  omega
 rw [e2,Nat.testBit_two_pow_sub_succ (by rw [show (2 : Nat) ^ 64 = 18446744073709551616 from by decide]; omega)] at e1
 intro h2
 rw [h2] at e1
 simp at e1
theorem free_ne {u t : Int} (h : 0 <= u /\ u < 2097152) (ht : Hs u t) : bitm.freeU u ≠ t := fun e => free_not h (by rw [e]; exact ht)
structure CabW (ok : List Int -> Prop) (h w : Nat) (ws : List Int) (x : Core) (r : List Int) : Prop where
 good : ok r
 a : x.phase ≠ 0 -> x.a = ws.getD 0 0
 p2 : x.phase = 2 -> x.b ≠ x.a /\ 0 <= x.b /\ Pt ws h w x.b.toNat x.i.toNat r
 p3 : x.phase = 3 -> x.b ≠ x.a /\ 0 <= x.b /\ Pt ws h w x.b.toNat w r
structure CabR (ok : List Int -> Prop) (h s w j : Nat) (ws : List Int) (y : Core) (q : List Int) : Prop where
 a : 0 <= y.a /\ y.a < (s : Int)
 p2 : y.phase = 2 -> ws.getD (1 + j) 0 = y.a + 1
 p3 : y.phase = 3 -> ws.getD (1 + j) 0 = y.a + 1 /\ Rd ok ws h w y.a.toNat y.i.toNat q
 p4 : y.phase = 4 -> y.b = 0 -> ok q
def CabB (j : Nat) (x y : Core) : Prop := y.phase = 3 -> (x.phase = 1 -> (j : Int) < x.i -> y.a = x.a \/ Hs x.used y.a) /\ (x.phase = 2 \/ x.phase = 3 -> y.a ≠ x.b)
structure CabI (ok : List Int -> Prop) (rl s w : Nat) (ws : List Int) (f : Nat -> Option (Core × List Int)) : Prop where
 len : ws.length = 1 + rl + s * w
 l : 0 <= ws.getD 0 0 /\ ws.getD 0 0 < (s : Int)
 v : Wh ok ws (1 + rl) w (ws.getD 0 0).toNat
 wr : ∀ x r,f 0 = some (x,r) -> CabW ok (1 + rl) w ws x r
 rd : ∀ (j : Nat) y q,j < rl -> f (j + 1) = some (y,q) -> CabR ok (1 + rl) s w j ws y q
 both : ∀ (j : Nat) x r y q,j < rl -> f 0 = some (x,r) -> f (j + 1) = some (y,q) -> CabB j x y
section
variable {ok : List Int -> Prop} {rl s w : Nat} {ws : List Int} {f : Nat -> Option (Core × List Int)}
theorem CabI.setW (h : CabI ok rl s w ws f) {x' : Core} {r' : List Int} (hw : CabW ok (1 + rl) w ws x' r') (hb : ∀ (j : Nat) y q,j < rl -> f (j + 1) = some (y,q) -> CabB j x' y) : CabI ok rl s w ws (upd f 0 (some (x',r'))) :=
 ⟨h.len,h.l,h.v,fun x r e => by rw [upd_self] at e; cases e; exact hw,fun j y q hj e => h.rd j y q hj (by rw [upd_ne _ _ (by omega)] at e; exact e),fun j x r y q hj e1 e2 => by
  rw [upd_self] at e1
  rw [upd_ne _ _ (by omega)] at e2
  cases e1
  exact hb j y q hj e2⟩
theorem CabI.endW (h : CabI ok rl s w ws f) : CabI ok rl s w ws (upd f 0 none) :=
 ⟨h.len,h.l,h.v,fun x r e => (by rw [upd_self] at e; cases e),fun j y q hj e => h.rd j y q hj (by rw [upd_ne _ _ (by omega)] at e; exact e),fun j x r y q hj e1 e2 => by
  rw [upd_self] at e1
  cases e1⟩
theorem CabI.setR (h : CabI ok rl s w ws f) {j : Nat} {y' : Core} {q' : List Int} (hr : CabR ok (1 + rl) s w j ws y' q') (hb : ∀ x r,f 0 = some (x,r) -> CabB j x y') : CabI ok rl s w ws (upd f (j + 1) (some (y',q'))) :=
 ⟨h.len,h.l,h.v,fun x r e => h.wr x r (by rw [upd_ne _ _ (by omega)] at e; exact e),fun k y q hk e => by
  by_cases hkj : k = j
  · subst hkj
    rw [upd_self] at e
    injection e with e
    injection e with e1 e2
    subst e1 e2
    exact hr
  · exact h.rd k y q hk (by rw [upd_ne _ _ (by omega)] at e; exact e),fun k x r y q hk e1 e2 => by
  rw [upd_ne _ _ (by omega)] at e1
  by_cases hkj : k = j
  · subst hkj
    rw [upd_self] at e2
    injection e2 with e2
    injection e2 with e3 e4
    subst e3 e4
    exact hb x r e1
  · exact h.both k x r y q hk e1 (by rw [upd_ne _ _ (by omega)] at e2; exact e2)⟩
theorem CabI.endR (h : CabI ok rl s w ws f) (j : Nat) : CabI ok rl s w ws (upd f (j + 1) none) :=
 ⟨h.len,h.l,h.v,fun x r e => h.wr x r (by rw [upd_ne _ _ (by omega)] at e; exact e),fun k y q hk e => by
  by_cases hkj : k = j
  · subst hkj
    rw [upd_self] at e
    cases e
  · exact h.rd k y q hk (by rw [upd_ne _ _ (by omega)] at e; exact e),fun k x r y q hk e1 e2 => by
  rw [upd_ne _ _ (by omega)] at e1
  by_cases hkj : k = j
  · subst hkj
    rw [upd_self] at e2
    cases e2
  · exact h.both k x r y q hk e1 (by rw [upd_ne _ _ (by omega)] at e2; exact e2)⟩
theorem CabI.mine (h : CabI ok rl s w ws f) {j : Nat} (hj : j < rl) (z : Int) : CabI ok rl s w (ws.set (1 + j) z) (upd f (j + 1) none) := by
 have hg : ∀ c,c ≠ 1 + j -> (ws.set (1 + j) z).getD c 0 = ws.getD c 0 := fun c hc => by rw [getD_set,if_neg (fun e => hc e.1.symm)]
 have h1 := h.endR j
 refine ⟨by rw [List.length_set]; exact h.len,by rw [hg 0 (by omega)]; exact h.l,by rw [hg 0 (by omega)]; exact h.v.head (by omega) _,fun x r e => ?_,fun k y q hk e => ?_,h1.both⟩
 · have W := h1.wr x r e
   exact ⟨W.good,fun e => by rw [hg 0 (by omega)]; exact W.a e,fun e => ⟨(W.p2 e).1,(W.p2 e).2.1,(W.p2 e).2.2.head (by omega) _⟩,fun e => ⟨(W.p3 e).1,(W.p3 e).2.1,(W.p3 e).2.2.head (by omega) _⟩⟩
 · have hkj : k ≠ j := fun hkj => by
    subst hkj
    rw [upd_self] at e
    cases e
   have R := h1.rd k y q hk e
   exact ⟨R.a,fun e => by rw [hg (1 + k) (by omega)]; exact R.p2 e,fun e => ⟨by rw [hg (1 + k) (by omega)]; exact (R.p3 e).1,(R.p3 e).2.head (by omega) _⟩,R.p4⟩
end
theorem cab_begin {ok : List Int -> Prop} {rl s w : Nat} (hs : 1 <= s) {ini : List Int} (hi : ini.length = w) (hok : ok ini) : CabI ok rl s w (cab.layL s w rl ini) (fun _ => none) := by
 have e1 : ((s : Int) * (w : Int)).toNat = s * w := by
  rw [show ((s : Int) * (w : Int)) = ((s * w : Nat) : Int) from (Int.natCast_mul _ _).symm,Int.toNat_natCast]
 have hsw : w <= s * w := by have := Nat.mul_le_mul_right w hs; omega
 have hlen : 1 + rl + ini.length <= (List.replicate (1 + rl + s * w) (0 : Int)).length := by rw [List.length_replicate]; omega
 have hL : cab.layL s w rl ini = mem.fillL (List.replicate (1 + rl + s * w) 0) (1 + rl) ini := by
  unfold cab.layL
  rw [e1]
 rw [hL]
 have h0 : (mem.fillL (List.replicate (1 + rl + s * w) 0) (1 + rl) ini).getD 0 0 = 0 := by
  rw [fill_getD _ _ _ _ hlen,if_pos (by omega),rep_getD]
 refine ⟨by rw [mem.fillL_length _ _ _ hlen,List.length_replicate],by rw [h0]; omega, ?_,fun x r e => (nomatch e),fun j y q hj e => (nomatch e),fun j x r y q hj e => (nomatch e)⟩
 rw [h0]
 refine ⟨ini,hok,hi,fun i hil => ?_⟩
 rw [show Int.toNat 0 = 0 from rfl,Nat.zero_mul,Nat.zero_add,fill_getD _ _ _ _ hlen,if_neg (by omega),if_pos (by omega)]
 congr 1
 omega
set_option maxHeartbeats 2000000 in
theorem cab_alg {o : ObV} (hR : RightO 5 o) {ok : List Int -> Prop} {s w : Nat} (hsz : o.s = (s : Int)) (hw : o.w = (w : Int)) : Alg 2 1 cab.K o ok (fun n ws f => CabI ok o.rl s w ws f) where
 begW := by
  intro n ws f r h hf hr hl
  exact h.setW ⟨hr,fun e => absurd rfl e,fun e => (by cases e),fun e => (by cases e)⟩ (fun j y q hj e e1 => ⟨fun e2 => (by cases e2),fun e2 => (by rcases e2 with e2 | e2 <;> cases e2)⟩)
 begR := by
  intro n ws f j h hf hj
  have hs1 : 3 <= s := by have := hR.2.2; simp [rightB] at this; omega
  exact h.setR ⟨⟨Int.le_refl _,by show (0 : Int) < _; omega⟩,fun e => (by cases e),fun e => (by cases e),fun e => (by cases e)⟩ (fun x r e e1 => (by cases e1))
 step := by
  rintro n ws f k ⟨xk,xw,xs,xc,xst,xia,xil,xic,xwr,xra,xrl,xrc,xop,xrd,xph,xi,xtr,xa,xb,xus,xm,xba,xsz,xcode,xsteps,xov⟩ r mv h hn hf hs hov hst hk hsize hws
  have hs1 : 3 <= s /\ s <= 16 /\ o.rl <= 4 := by have := hR.2.2; simp [rightB] at this; omega
  obtain ⟨t1,t2,t3,t4,t5,t6⟩ := hst
  have hi := cab.Shape.i hs hov
  have hb := cab.Shape.b hs
  have hsa := cab.Shape.a hs
  simp only at t1 t2 t3 t4 t5 t6 hov hi hb hsa
  subst hov t4 t3
  rw [hw] at t1
  rw [hsz] at t2
  subst t1 t2
  show Stat o 2 1 k (cab.step _ _ _ _).1 /\ CabI ok o.rl s w (cab.step _ _ _ _).2.2 (upd f k (if (cab.step _ _ _ _).1.over = true then none else some ((cab.step _ _ _ _).1,(cab.step _ _ _ _).2.1))) /\ (0 < k -> (cab.step _ _ _ _).1.over = true -> (cab.step _ _ _ _).1.code = 0 -> ok (cab.step _ _ _ _).2.1)
  have hz : Int.toNat 0 = 0 := rfl
  have hwn : ((w : Int)).toNat = w := Int.toNat_natCast w
  have hlen := h.len
  have hl := h.l
  have hlm : ws.getD 0 0 % (s : Int) = ws.getD 0 0 := Int.emod_eq_of_lt hl.1 hl.2
  match k,hf,hk,t5,t6 with
  | 0,hf,hk,t5,t6 =>
   rw [if_pos rfl] at t5
   subst t5
   obtain ⟨w1,w2,w4,w5⟩ := h.wr _ _ hf
   simp only at w1 w2 w4 w5
   have hrlen : r.length = w := by
    rcases cab.Shape.op hs with ⟨_,_,h3⟩ | ⟨h3,_⟩
    · have := h3 rfl; simp only at this; omega
    · cases h3
   simp only [cab.step,if_pos,cab.stepW,hz,Nat.zero_add,hwn,hlm]
   by_cases p0 : xph = 0
   · simp only [if_pos p0]
     refine ⟨⟨hw.symm,hsz.symm,rfl,rfl,rfl,t6⟩, ?_,fun h0 => by omega⟩
     rw [if_neg (by simp)]
     exact h.setW ⟨w1,fun _ => rfl,fun e => (by cases e),fun e => (by cases e)⟩ (fun j y q hj e e1 => ⟨fun _ e3 => by simp only at e3; omega,fun e2 => (by rcases e2 with e2 | e2 <;> cases e2)⟩)
   by_cases p1 : xph = 1
   · simp only [if_neg p0,if_pos p1]
     have ha := w2 p0
     have hmk := cab.Shape.marks hs rfl rfl (by simp only; omega)
     have hmb := bitm.Marks.bd hmk
     simp only at hmb
     have hil : xi.toNat < o.rl := by
      have h9 := hi.2
      rw [if_pos ⟨rfl,p1⟩] at h9
      omega
     obtain ⟨u,hu⟩ : ∃ u,ws.getD (1 + xi.toNat) 0 = u := ⟨_,rfl⟩
     rw [hu]
     obtain ⟨us,hus⟩ : ∃ z,(if 0 < u then bitm.markU xus (u - 1) else xus) = z := ⟨_,rfl⟩
     have hub : 0 <= us /\ us < 2097152 := by
      rw [<- hus]
      split
      · exact bitm.markU_bd hmb (by omega)
      · exact hmb
     have hmark : ∀ (j : Nat) y q,j < o.rl -> f (j + 1) = some (y,q) -> y.phase = 3 -> (j : Int) <= xi -> y.a = xa \/ Hs us y.a := fun j y q hj e e1 hle => by
      have R := h.rd j y q hj e
      by_cases hlt : (j : Int) < xi
      · rcases (h.both j _ _ y q hj hf e e1).1 p1 hlt with h8 | h8
        · exact .inl h8
        · right
          rw [<- hus]
          split
          · exact h8.keep _
          · exact h8
      · have hji : j = xi.toNat := by omega
        subst hji
        have h8 := (R.p3 e1).1
        rw [hu] at h8
        right
        rw [<- hus,h8,if_pos (by have := R.a; omega),show y.a + 1 - 1 = y.a by omega]
        exact Hs.mark (by have := R.a; omega)
     have hsc : cab.scanC { k := xk,w := (w : Int),s := (s : Int),c := xc,st := xst,ia := xia,il := xil,ic := xic,wr := xwr,ra := xra,rl := o.rl,rc := xrc,op := 2,reader := xrd,phase := xph,i := xi,tries := xtr,a := xa,b := xb,used := xus,m := mv,base := 0,size := xsz,code := xcode,steps := xsteps + 1,over := false } u = if o.rl <= xi.toNat + 1 then { k := xk,w := (w : Int),s := (s : Int),c := xc,st := xst,ia := xia,il := xil,ic := xic,wr := xwr,ra := xra,rl := o.rl,rc := xrc,op := 2,reader := xrd,phase := 2,i := 0,tries := xtr,a := xa,b := bitm.freeU (bitm.markU us xa),used := bitm.markU us xa,m := mv,base := 0,size := xsz,code := xcode,steps := xsteps + 1,over := false } else { k := xk,w := (w : Int),s := (s : Int),c := xc,st := xst,ia := xia,il := xil,ic := xic,wr := xwr,ra := xra,rl := o.rl,rc := xrc,op := 2,reader := xrd,phase := xph,i := (xi.toNat : Int) + 1,tries := xtr,a := xa,b := xb,used := us,m := mv,base := 0,size := xsz,code := xcode,steps := xsteps + 1,over := false } := by
      rw [<- hus]; rfl
     rw [hsc]
     by_cases hlast : o.rl <= xi.toNat + 1
     · simp only [if_pos hlast]
       refine ⟨⟨hw.symm,hsz.symm,rfl,rfl,rfl,t6⟩, ?_,fun h0 => by omega⟩
       rw [if_neg (by simp)]
       have hub2 := bitm.markU_bd hub (s := xa) (by omega)
       refine h.setW ⟨w1,fun _ => ha,fun _ => ⟨?_, ?_,Pt.zero hrlen⟩,fun e => (by cases e)⟩ (fun j y q hj e e1 => ⟨fun e2 => (by cases e2),fun _ => ?_⟩)
       · exact free_ne hub2 (Hs.mark (by omega))
       · have := bitm.freeU_bd (u := bitm.markU us xa) (by omega)
         exact this.1
       · intro e3
         simp only at e3
         rcases hmark j y q hj e e1 (by omega) with h8 | h8
         · exact free_ne hub2 (Hs.mark (u := us) (s := xa) (by omega)) (by rw [<- e3,h8])
         · exact free_ne hub2 (h8.keep xa) e3.symm
     · simp only [if_neg hlast]
       refine ⟨⟨hw.symm,hsz.symm,rfl,rfl,rfl,t6⟩, ?_,fun h0 => by omega⟩
       rw [if_neg (by simp)]
       refine h.setW ⟨w1,fun _ => ha,fun e => by simp only at e; omega,fun e => by simp only at e; omega⟩ (fun j y q hj e e1 => ⟨fun _ e3 => ?_,fun e2 => by simp only at e2; omega⟩)
       simp only at e3
       exact hmark j y q hj e e1 (by omega)
   by_cases p2 : xph = 2
   · simp only [if_neg p0,if_neg p1,if_pos p2]
     have ha := w2 p0
     obtain ⟨c1,c3,c2⟩ := w4 p2
     have hpl : cab.place { k := xk,w := (w : Int),s := (s : Int),c := xc,st := xst,ia := xia,il := xil,ic := xic,wr := xwr,ra := xra,rl := o.rl,rc := xrc,op := 2,reader := xrd,phase := xph,i := xi,tries := xtr,a := xa,b := xb,used := xus,m := mv,base := 0,size := xsz,code := xcode,steps := xsteps + 1,over := false } xb = 1 + o.rl + xb.toNat * w := place_eq (1 + o.rl) xb w c3
     rw [hpl,Nat.add_assoc]
     have hil : xi.toNat < w := by
      have h9 := hi.2
      rw [if_neg (by omega)] at h9
      omega
     have hlt : 1 + o.rl + (xb.toNat * w + xi.toNat) < ws.length := by
      have := idx_lt (s := s) (w := w) (j := xb.toNat) (i := xi.toNat) (by omega) hil
      omega
     have hP := c2.step hil hlt
     have hh : ∀ c,c < 1 + o.rl -> (ws.set (1 + o.rl + (xb.toNat * w + xi.toNat)) (r.getD xi.toNat 0)).getD c 0 = ws.getD c 0 := fun c hc => by rw [getD_set,if_neg (fun e => by omega)]
     have hI : CabI ok o.rl s w (ws.set (1 + o.rl + (xb.toNat * w + xi.toNat)) (r.getD xi.toNat 0)) (upd f 0 none) := by
      refine ⟨by rw [List.length_set]; exact h.len,by rw [hh 0 (by omega)]; exact h.l,by rw [hh 0 (by omega)]; exact h.v.slot hil (by omega) _,fun x' r' e => (by rw [upd_self] at e; exact (nomatch e)),fun j y q hj e => ?_,h.endW.both⟩
      rw [upd_ne _ _ (by omega)] at e
      have R := h.rd j y q hj e
      refine ⟨R.a,fun e1 => by rw [hh (1 + j) (by omega)]; exact R.p2 e1,fun e1 => ⟨by rw [hh (1 + j) (by omega)]; exact (R.p3 e1).1,(R.p3 e1).2.slot hil (fun e2 => ?_) _⟩,R.p4⟩
      have h8 := (h.both j _ _ y q hj hf e e1).2 (.inl p2)
      simp only at h8
      have := R.a
      omega
     have hB : ∀ (x' : Core),x'.phase = 2 \/ x'.phase = 3 -> x'.b = xb -> ∀ (j : Nat) y q,j < o.rl -> (upd f 0 none) (j + 1) = some (y,q) -> CabB j x' y := fun x' hx hxb j y q hj e e1 => by
      rw [upd_ne _ _ (by omega)] at e
      refine ⟨fun e2 => by omega,fun _ => ?_⟩
      rw [hxb]
      exact (h.both j _ _ y q hj hf e e1).2 (.inl p2)
     by_cases hlast : w <= xi.toNat + 1
     · simp only [if_pos hlast]
       refine ⟨⟨hw.symm,hsz.symm,rfl,rfl,rfl,t6⟩, ?_,fun h0 => by omega⟩
       rw [if_neg (by simp), ← upd_upd f 0 none]
       exact hI.setW ⟨w1,fun _ => by rw [hh 0 (by omega)]; exact ha,fun e => (by cases e),fun _ => ⟨c1,c3,by rwa [show xi.toNat + 1 = w by omega] at hP⟩⟩ (hB _ (.inr rfl) rfl)
     · simp only [if_neg hlast]
       refine ⟨⟨hw.symm,hsz.symm,rfl,rfl,rfl,t6⟩, ?_,fun h0 => by omega⟩
       rw [if_neg (by simp), ← upd_upd f 0 none]
       exact hI.setW ⟨w1,fun _ => by rw [hh 0 (by omega)]; exact ha,fun _ => ⟨c1,c3,by rw [show ((xi.toNat : Int) + 1).toNat = xi.toNat + 1 by omega]; exact hP⟩,fun e => by simp only at e; omega⟩ (hB _ (.inl p2) rfl)
   · simp only [if_neg p0,if_neg p1,if_neg p2]
     have hp3 : xph = 3 := by
      rcases cab.Shape.op hs with ⟨_,h3,_⟩ | ⟨h3,_⟩
      · simp only at h3; omega
      · cases h3
     obtain ⟨c1,c3,c2⟩ := w5 hp3
     have hg0 : (ws.set 0 xb).getD 0 0 = xb := by rw [getD_set,if_pos ⟨rfl,by omega⟩]
     have hg : ∀ c,c ≠ 0 -> (ws.set 0 xb).getD c 0 = ws.getD c 0 := fun c hc => by rw [getD_set,if_neg (fun e => hc e.1.symm)]
     refine ⟨⟨hw.symm,hsz.symm,rfl,rfl,rfl,t6⟩, ?_,fun h0 => by omega⟩
     rw [if_pos (by simp)]
     refine ⟨by rw [List.length_set]; exact h.len,by rw [hg0]; exact ⟨hb.1,hb.2⟩,by rw [hg0]; exact (c2.whole w1).head (by omega) _,fun x' r' e => (by rw [upd_self] at e; exact (nomatch e)),fun j y q hj e => ?_,h.endW.both⟩
     rw [upd_ne _ _ (by omega)] at e
     have R := h.rd j y q hj e
     exact ⟨R.a,fun e1 => by rw [hg _ (by omega)]; exact R.p2 e1,fun e1 => ⟨by rw [hg _ (by omega)]; exact (R.p3 e1).1,(R.p3 e1).2.head (by omega) _⟩,R.p4⟩
  | k + 1,hf,hk,t5,t6 =>
   rw [if_neg (by omega)] at t5
   subst t5
   have hkr : k < o.rl := by omega
   have hrd : xrd.toNat = k := by have := t6 (by omega); omega
   obtain ⟨y0,y2,y3,y4⟩ := h.rd k _ _ hkr hf
   simp only at y0 y2 y3 y4
   have hrlen : xph ≠ 3 -> xph ≠ 4 -> r = [] := fun n1 n2 => by
    rcases cab.Shape.op hs with ⟨h3,_⟩ | ⟨_,_,h3⟩
    · cases h3
    · have := h3 rfl
      simp only at this
      rw [if_neg n1,if_neg n2] at this
      exact List.eq_nil_of_length_eq_zero (by omega)
   simp only [cab.step,if_neg (show ¬ (1 : Int) = 2 by decide),cab.stepR,hz,Nat.zero_add,hwn,hlm,hrd]
   have hgm : ∀ v,(ws.set (1 + k) v).getD (1 + k) 0 = v := fun v => by rw [getD_set,if_pos ⟨rfl,by omega⟩]
   by_cases p0 : xph = 0
   · simp only [if_pos p0]
     refine ⟨⟨hw.symm,hsz.symm,rfl,rfl,rfl,t6⟩, ?_,fun _ e => by simp at e⟩
     rw [if_neg (by simp)]
     exact h.setR ⟨hl,fun e => (by cases e),fun e => (by cases e),fun e => (by cases e)⟩ (fun x r e e1 => (by cases e1))
   by_cases p1 : xph = 1
   · simp only [if_neg p0,if_pos p1]
     refine ⟨⟨hw.symm,hsz.symm,rfl,rfl,rfl,t6⟩, ?_,fun _ e => by simp at e⟩
     rw [if_neg (by simp), ← upd_upd f (k + 1) none]
     refine (h.mine hkr _).setR ⟨y0,fun _ => ?_,fun e => (by cases e),fun e => (by cases e)⟩ (fun x r e e1 => (by cases e1))
     rw [hgm]
     show (xa + 1) % 4294967296 = xa + 1
     omega
   by_cases p2 : xph = 2
   · simp only [if_neg p0,if_neg p1,if_pos p2]
     have hc := y2 p2
     by_cases hq : ws.getD 0 0 = xa
     · simp only [if_pos hq]
       refine ⟨⟨hw.symm,hsz.symm,rfl,rfl,rfl,t6⟩, ?_,fun _ e => by simp at e⟩
       rw [if_neg (by simp),hrlen (by omega) (by omega)]
       refine h.setR ⟨y0,fun e => (by cases e),fun _ => ⟨hc, ?_⟩,fun e => (by cases e)⟩ (fun x r e e1 => ⟨fun e2 _ => .inl ?_,fun e2 => ?_⟩)
       · have := h.v.rd
         rw [hq] at this
         exact this
       · have := (h.wr x r e).a (by omega)
         show xa = x.a
         omega
       · have h8 := (h.wr x r e).a (by omega)
         show xa ≠ x.b
         rcases e2 with e2 | e2
         · have := ((h.wr x r e).p2 e2).1; omega
         · have := ((h.wr x r e).p3 e2).1; omega
     · simp only [if_neg hq]
       unfold cab.failC
       by_cases hlast : xc <= xtr + 1
       · simp only [if_pos hlast]
         refine ⟨⟨hw.symm,hsz.symm,rfl,rfl,rfl,t6⟩, ?_,fun _ e => by simp at e⟩
         rw [if_neg (by simp)]
         exact h.setR ⟨y0,fun e => (by cases e),fun e => (by cases e),fun _ e => (by cases e)⟩ (fun x r e e1 => (by cases e1))
       · simp only [if_neg hlast]
         refine ⟨⟨hw.symm,hsz.symm,rfl,rfl,rfl,t6⟩, ?_,fun _ e => by simp at e⟩
         rw [if_neg (by simp)]
         exact h.setR ⟨y0,fun e => (by cases e),fun e => (by cases e),fun e => (by cases e)⟩ (fun x r e e1 => (by cases e1))
   by_cases p3 : xph = 3
   · simp only [if_neg p0,if_neg p1,if_neg p2,if_pos p3]
     obtain ⟨b1,b4⟩ := y3 p3
     have hpl : cab.place { k := xk,w := (w : Int),s := (s : Int),c := xc,st := xst,ia := xia,il := xil,ic := xic,wr := xwr,ra := xra,rl := o.rl,rc := xrc,op := 1,reader := xrd,phase := xph,i := xi,tries := xtr,a := xa,b := xb,used := xus,m := mv,base := 0,size := xsz,code := xcode,steps := xsteps + 1,over := false } xa = 1 + o.rl + xa.toNat * w := place_eq (1 + o.rl) xa w y0.1
     rw [hpl,Nat.add_assoc]
     have hil : xi.toNat < w := by
      have h9 := hi.2
      rw [if_neg (by omega)] at h9
      omega
     have hB : ∀ (y' : Core),y'.a = xa -> ∀ x r,f 0 = some (x,r) -> CabB k x y' := fun y' hy x r e e1 => by
      rw [hy]
      exact h.both k x r _ _ hkr e hf p3
     by_cases hlast : w <= xi.toNat + 1
     · simp only [if_pos hlast]
       refine ⟨⟨hw.symm,hsz.symm,rfl,rfl,rfl,t6⟩, ?_,fun _ e => by simp at e⟩
       rw [if_neg (by simp)]
       refine h.setR ⟨y0,fun e => (by cases e),fun e => (by cases e),fun _ _ => ?_⟩ (hB _ rfl)
       have h8 := b4.step hil
       rw [show xi.toNat + 1 = w by omega] at h8
       exact h8.all
     · simp only [if_neg hlast]
       refine ⟨⟨hw.symm,hsz.symm,rfl,rfl,rfl,t6⟩, ?_,fun _ e => by simp at e⟩
       rw [if_neg (by simp)]
       exact h.setR ⟨y0,fun e => by simp only at e; omega,fun _ => ⟨b1,by rw [show ((xi.toNat : Int) + 1).toNat = xi.toNat + 1 by omega]; exact b4.step hil⟩,fun e => by simp only at e; omega⟩ (hB _ rfl)
   · simp only [if_neg p0,if_neg p1,if_neg p2,if_neg p3]
     have hp4 : xph = 4 := by
      rcases cab.Shape.op hs with ⟨h3,_⟩ | ⟨_,h3,_⟩
      · cases h3
      · simp only at h3; omega
     refine ⟨⟨hw.symm,hsz.symm,rfl,rfl,rfl,t6⟩, ?_,fun _ _ e => ?_⟩
     · rw [if_pos (by simp)]
       exact h.mine hkr _
     · subst e
       exact y4 hp4 rfl
structure ChenW (ok : List Int -> Prop) (h w : Nat) (ws : List Int) (x : Core) (r : List Int) : Prop where
 good : ok r
 a : 1 <= x.phase -> x.phase <= 3 -> x.a = ws.getD 0 0
 p2 : x.phase = 2 -> x.b ≠ x.a /\ 0 <= x.b /\ Pt ws h w x.b.toNat x.i.toNat r
 p3 : x.phase = 3 -> x.b ≠ x.a /\ 0 <= x.b /\ Pt ws h w x.b.toNat w r
 p4 : x.phase = 4 -> x.b = ws.getD 0 0
structure ChenR (ok : List Int -> Prop) (rl w j : Nat) (ws : List Int) (y : Core) (q : List Int) : Prop where
 rg : 1 <= y.phase -> ws.getD (1 + j) 0 ≠ (rl : Int) + 2 -> Wh ok ws (1 + rl) w (ws.getD (1 + j) 0).toNat
 p2 : y.phase = 2 -> (0 <= y.a /\ y.a < (rl : Int) + 2) /\ (ws.getD (1 + j) 0 = (rl : Int) + 2 -> Wh ok ws (1 + rl) w y.a.toNat)
 p3 : y.phase = 3 -> ws.getD (1 + j) 0 ≠ (rl : Int) + 2
 p4 : y.phase = 4 -> ws.getD (1 + j) 0 = y.b /\ y.b < (rl : Int) + 2 /\ Rd ok ws (1 + rl) w y.b.toNat y.i.toNat q
def ChenB (rl j : Nat) (ws : List Int) (x y : Core) : Prop := 1 <= y.phase -> ws.getD (1 + j) 0 ≠ (rl : Int) + 2 →
 (x.phase = 1 -> (j : Int) < x.i -> ws.getD (1 + j) 0 = x.a \/ Hs x.used (ws.getD (1 + j) 0)) /\ (x.phase = 2 \/ x.phase = 3 -> ws.getD (1 + j) 0 ≠ x.b)
structure ChenI (ok : List Int -> Prop) (rl w : Nat) (ws : List Int) (f : Nat -> Option (Core × List Int)) : Prop where
 len : ws.length = 1 + rl + (rl + 2) * w
 l : 0 <= ws.getD 0 0 /\ ws.getD 0 0 < (rl : Int) + 2
 c : ∀ j,j < rl -> 0 <= ws.getD (1 + j) 0 /\ ws.getD (1 + j) 0 <= (rl : Int) + 2
 v : Wh ok ws (1 + rl) w (ws.getD 0 0).toNat
 wr : ∀ x r,f 0 = some (x,r) -> ChenW ok (1 + rl) w ws x r
 rd : ∀ (j : Nat) y q,j < rl -> f (j + 1) = some (y,q) -> ChenR ok rl w j ws y q
 both : ∀ (j : Nat) x r y q,j < rl -> f 0 = some (x,r) -> f (j + 1) = some (y,q) -> ChenB rl j ws x y
 nl : ∀ (j : Nat) y q,j < rl -> f (j + 1) = some (y,q) -> y.phase = 2 -> ws.getD (1 + j) 0 = (rl : Int) + 2 -> y.a = ws.getD 0 0 \/ ∃ x r,f 0 = some (x,r) /\ x.phase = 4 /\ x.i <= (j : Int)
section
variable {ok : List Int -> Prop} {rl w : Nat} {ws : List Int} {f : Nat -> Option (Core × List Int)}
theorem ChenI.setW (h : ChenI ok rl w ws f) {x' : Core} {r' : List Int} (hw : ChenW ok (1 + rl) w ws x' r') (hb : ∀ (j : Nat) y q,j < rl -> f (j + 1) = some (y,q) -> ChenB rl j ws x' y)
 (hn : ∀ (j : Nat) y q,j < rl -> f (j + 1) = some (y,q) -> y.phase = 2 -> ws.getD (1 + j) 0 = (rl : Int) + 2 -> y.a = ws.getD 0 0 \/ (x'.phase = 4 /\ x'.i <= (j : Int))) : ChenI ok rl w ws (upd f 0 (some (x',r'))) :=
 ⟨h.len,h.l,h.c,h.v,fun x r e => by rw [upd_self] at e; cases e; exact hw,fun j y q hj e => h.rd j y q hj (by rw [upd_ne _ _ (by omega)] at e; exact e),fun j x r y q hj e1 e2 => by
  rw [upd_self] at e1
  rw [upd_ne _ _ (by omega)] at e2
  cases e1
  exact hb j y q hj e2,fun j y q hj e e1 e2 => by
  rw [upd_ne _ _ (by omega)] at e
  rcases hn j y q hj e e1 e2 with h1 | h1
  · exact .inl h1
  · exact .inr ⟨x',r',upd_self _ _ _,h1⟩⟩
theorem ChenI.setR (h : ChenI ok rl w ws f) {j : Nat} (hj : j < rl) {y' : Core} {q' : List Int} (hr : ChenR ok rl w j ws y' q') (hb : ∀ x r,f 0 = some (x,r) -> ChenB rl j ws x y')
 (hn : y'.phase = 2 -> ws.getD (1 + j) 0 = (rl : Int) + 2 -> y'.a = ws.getD 0 0 \/ ∃ x r,f 0 = some (x,r) /\ x.phase = 4 /\ x.i <= (j : Int)) : ChenI ok rl w ws (upd f (j + 1) (some (y',q'))) :=
 ⟨h.len,h.l,h.c,h.v,fun x r e => h.wr x r (by rw [upd_ne _ _ (by omega)] at e; exact e),fun k y q hk e => by
  by_cases hkj : k = j
  · subst hkj
    rw [upd_self] at e
    injection e with e
    injection e with e1 e2
    subst e1 e2
    exact hr
  · exact h.rd k y q hk (by rw [upd_ne _ _ (by omega)] at e; exact e),fun k x r y q hk e1 e2 => by
  rw [upd_ne _ _ (by omega)] at e1
  by_cases hkj : k = j
  · subst hkj
    rw [upd_self] at e2
    injection e2 with e2
    injection e2 with e3 e4
    subst e3 e4
    exact hb x r e1
  · exact h.both k x r y q hk e1 (by rw [upd_ne _ _ (by omega)] at e2; exact e2),fun k y q hk e e1 e2 => by
  rw [upd_ne _ _ (by omega)]
  by_cases hkj : k = j
  · subst hkj
    rw [upd_self] at e
    injection e with e
    injection e with e3 e4
    subst e3 e4
    exact hn e1 e2
  · exact h.nl k y q hk (by rw [upd_ne _ _ (by omega)] at e; exact e) e1 e2⟩
theorem ChenI.endR (h : ChenI ok rl w ws f) (j : Nat) : ChenI ok rl w ws (upd f (j + 1) none) :=
 ⟨h.len,h.l,h.c,h.v,fun x r e => h.wr x r (by rw [upd_ne _ _ (by omega)] at e; exact e),fun k y q hk e => by
  by_cases hkj : k = j
  · subst hkj
    rw [upd_self] at e
    cases e
  · exact h.rd k y q hk (by rw [upd_ne _ _ (by omega)] at e; exact e),fun k x r y q hk e1 e2 => by
  rw [upd_ne _ _ (by omega)] at e1
  by_cases hkj : k = j
  · subst hkj
    rw [upd_self] at e2
    cases e2
  · exact h.both k x r y q hk e1 (by rw [upd_ne _ _ (by omega)] at e2; exact e2),fun k y q hk e e1 e2 => by
  rw [upd_ne _ _ (by omega)]
  by_cases hkj : k = j
  · subst hkj
    rw [upd_self] at e
    cases e
  · exact h.nl k y q hk (by rw [upd_ne _ _ (by omega)] at e; exact e) e1 e2⟩
theorem ChenI.mine (h : ChenI ok rl w ws f) {j : Nat} (hj : j < rl) {z : Int} (hz : 0 <= z /\ z <= (rl : Int) + 2) : ChenI ok rl w (ws.set (1 + j) z) (upd f (j + 1) none) := by
 have hg : ∀ c,c ≠ 1 + j -> (ws.set (1 + j) z).getD c 0 = ws.getD c 0 := fun c hc => by rw [getD_set,if_neg (fun e => hc e.1.symm)]
 have h1 := h.endR j
 have hne : ∀ (k : Nat) y q,upd f (j + 1) none (k + 1) = some (y,q) -> 1 + k ≠ 1 + j := fun k y q e hkj => by
  have : k = j := by omega
  subst this
  rw [upd_self] at e
  cases e
 refine ⟨by rw [List.length_set]; exact h.len,by rw [hg 0 (by omega)]; exact h.l,fun k hk => ?_,by rw [hg 0 (by omega)]; exact h.v.head (by omega) _,fun x r e => ?_,fun k y q hk e => ?_,fun k x r y q hk e1 e2 => ?_,fun k y q hk e e1 e2 => ?_⟩
 · rw [getD_set]
   split
   · exact hz
   · exact h.c k hk
 · have W := h1.wr x r e
   exact ⟨W.good,fun e e' => by rw [hg 0 (by omega)]; exact W.a e e',fun e => ⟨(W.p2 e).1,(W.p2 e).2.1,(W.p2 e).2.2.head (by omega) _⟩,fun e => ⟨(W.p3 e).1,(W.p3 e).2.1,(W.p3 e).2.2.head (by omega) _⟩,fun e => by rw [hg 0 (by omega)]; exact W.p4 e⟩
 · have R := h1.rd k y q hk e
   have hk' := hne k y q e
   exact ⟨fun e e' => by rw [hg _ hk'] at e' ⊢; exact (R.rg e e').head (by omega) _,fun e => ⟨(R.p2 e).1,fun e' => by rw [hg _ hk'] at e'; exact ((R.p2 e).2 e').head (by omega) _⟩,fun e => by rw [hg _ hk']; exact R.p3 e,fun e => ⟨by rw [hg _ hk']; exact (R.p4 e).1,(R.p4 e).2.1,(R.p4 e).2.2.head (by omega) _⟩⟩
 · have B := h1.both k x r y q hk e1 e2
   unfold ChenB at *
   rw [hg _ (hne k y q e2)]
   exact B
 · rw [hg _ (hne k y q e)] at e2
   rw [hg 0 (by omega)]
   exact h1.nl k y q hk e e1 e2
end
theorem chen_begin {ok : List Int -> Prop} {rl w : Nat} {ini : List Int} (hi : ini.length = w) (hok : ok ini) : ChenI ok rl w (chen.layL w rl ini) (fun _ => none) := by
 have e1 : (((rl : Int) + 2) * (w : Int)).toNat = (rl + 2) * w := by
  rw [show (((rl : Int) + 2) * (w : Int)) = (((rl + 2) * w : Nat) : Int) by rw [Int.natCast_mul]; rfl,Int.toNat_natCast]
 have hsw : w <= (rl + 2) * w := by have := Nat.mul_le_mul_right w (show 1 <= rl + 2 by omega); omega
 have hlen : 1 + rl + ini.length <= (List.replicate (1 + rl + (rl + 2) * w) (0 : Int)).length := by rw [List.length_replicate]; omega
 have hL : chen.layL w rl ini = mem.fillL (List.replicate (1 + rl + (rl + 2) * w) 0) (1 + rl) ini := by
  unfold chen.layL
  rw [e1]
 rw [hL]
 have h0 : ∀ c,c < 1 + rl -> (mem.fillL (List.replicate (1 + rl + (rl + 2) * w) 0) (1 + rl) ini).getD c 0 = 0 := fun c hc => by
  rw [fill_getD _ _ _ _ hlen,if_pos hc,rep_getD]
 refine ⟨by rw [mem.fillL_length _ _ _ hlen,List.length_replicate],by rw [h0 0 (by omega)]; omega,fun j hj => by rw [h0 _ (by omega)]; omega, ?_,fun x r e => (nomatch e),fun j y q hj e => (nomatch e),fun j x r y q hj e => (nomatch e),fun j y q hj e => (nomatch e)⟩
 rw [h0 0 (by omega)]
 refine ⟨ini,hok,hi,fun i hil => ?_⟩
 rw [show Int.toNat 0 = 0 from rfl,Nat.zero_mul,Nat.zero_add,fill_getD _ _ _ _ hlen,if_neg (by omega),if_pos (by omega)]
 congr 1
 omega
set_option maxHeartbeats 2000000 in
theorem chen_alg {o : ObV} (hR : RightO 2 o) {ok : List Int -> Prop} {w : Nat} (hw : o.w = (w : Int)) : Alg 2 1 chen.K o ok (fun n ws f => ChenI ok o.rl w ws f) where
 begW := by
  intro n ws f r h hf hr hl
  refine h.setW ⟨hr,fun e => (by cases e),fun e => (by cases e),fun e => (by cases e),fun e => (by cases e)⟩ (fun j y q hj e e1 e2 => ⟨fun e2 => (by cases e2),fun e2 => (by rcases e2 with e2 | e2 <;> cases e2)⟩) (fun j y q hj e e1 e2 => ?_)
  rcases h.nl j y q hj e e1 e2 with h1 | ⟨x,r,h1,_⟩
  · exact .inl h1
  · rw [hf] at h1; cases h1
 begR := by
  intro n ws f j h hf hj
  exact h.setR hj ⟨fun e => (by cases e),fun e => (by cases e),fun e => (by cases e),fun e => (by cases e)⟩ (fun x r e e1 => (by cases e1)) (fun e => (by cases e))
 step := by
  rintro n ws f k ⟨xk,xw,xs,xc,xst,xia,xil,xic,xwr,xra,xrl,xrc,xop,xrd,xph,xi,xtr,xa,xb,xus,xm,xba,xsz,xcode,xsteps,xov⟩ r mv h hn hf hs hov hst hk hsize hws
  have hs1 : 1 <= o.rl /\ o.rl <= 4 := by have := hR.2.2; simp [rightB] at this; omega
  obtain ⟨t1,t2,t3,t4,t5,t6⟩ := hst
  have hi := chen.Shape.i hs hov
  have hb := chen.Shape.b hs
  simp only at t1 t2 t3 t4 t5 t6 hov hi hb
  subst hov t4 t3
  rw [hw] at t1
  subst t1
  show Stat o 2 1 k (chen.step _ _ _ _).1 /\ ChenI ok o.rl w (chen.step _ _ _ _).2.2 (upd f k (if (chen.step _ _ _ _).1.over = true then none else some ((chen.step _ _ _ _).1,(chen.step _ _ _ _).2.1))) /\ (0 < k -> (chen.step _ _ _ _).1.over = true -> (chen.step _ _ _ _).1.code = 0 -> ok (chen.step _ _ _ _).2.1)
  have hz : Int.toNat 0 = 0 := rfl
  have hwn : ((w : Int)).toNat = w := Int.toNat_natCast w
  have hlen := h.len
  have hl := h.l
  match k,hf,hk,t5,t6 with
  | 0,hf,hk,t5,t6 =>
   rw [if_pos rfl] at t5
   subst t5
   obtain ⟨w1,w2,w4,w5,w6⟩ := h.wr _ _ hf
   simp only at w1 w2 w4 w5 w6
   have hrlen : r.length = w := by
    rcases chen.Shape.op hs with ⟨_,_,h3⟩ | ⟨h3,_⟩
    · have := h3 rfl; simp only at this; omega
    · cases h3
   have hph : 0 <= xph /\ xph <= 4 := by
    rcases chen.Shape.op hs with ⟨_,h3,_⟩ | ⟨h3,_⟩
    · exact h3
    · cases h3
   have hnl : xph ≠ 4 -> ∀ (j : Nat) y q,j < o.rl -> f (j + 1) = some (y,q) -> y.phase = 2 -> ws.getD (1 + j) 0 = (o.rl : Int) + 2 -> y.a = ws.getD 0 0 := fun hne j y q hj e e1 e2 => by
    rcases h.nl j y q hj e e1 e2 with h1 | ⟨x,r,h1,h2,_⟩
    · exact h1
    · rw [hf] at h1
      injection h1 with h1
      injection h1 with h1 _
      subst h1
      exact absurd h2 hne
   simp only [chen.step,if_pos,chen.stepW,hz,Nat.zero_add,hwn]
   by_cases p0 : xph = 0
   · simp only [if_pos p0]
     refine ⟨⟨hw.symm,t2,rfl,rfl,rfl,t6⟩, ?_,fun h0 => by omega⟩
     rw [if_neg (by simp)]
     exact h.setW ⟨w1,fun _ _ => rfl,fun e => (by cases e),fun e => (by cases e),fun e => (by cases e)⟩ (fun j y q hj e e1 e2 => ⟨fun _ e3 => by simp only at e3; omega,fun e2 => (by rcases e2 with e2 | e2 <;> cases e2)⟩) (fun j y q hj e e1 e2 => .inl (hnl (by omega) j y q hj e e1 e2))
   by_cases p1 : xph = 1
   · simp only [if_neg p0,if_pos p1]
     have ha := w2 (by omega) (by omega)
     have hmk := chen.Shape.marks hs rfl rfl (by simp only; omega)
     have hmb := bitm.Marks.bd hmk
     simp only at hmb
     have hil : xi.toNat < o.rl := by
      have h9 := hi.2
      rw [if_pos ⟨rfl, .inl p1⟩] at h9
      omega
     have hcu := h.c xi.toNat hil
     obtain ⟨u,hu⟩ : ∃ u,ws.getD (1 + xi.toNat) 0 = u := ⟨_,rfl⟩
     rw [hu] at hcu ⊢
     have hub := bitm.markU_bd hmb (s := u) hcu.1
     have hmark : ∀ (j : Nat) y q,j < o.rl -> f (j + 1) = some (y,q) -> 1 <= y.phase -> ws.getD (1 + j) 0 ≠ (o.rl : Int) + 2 -> (j : Int) <= xi -> ws.getD (1 + j) 0 = xa \/ Hs (bitm.markU xus u) (ws.getD (1 + j) 0) := fun j y q hj e e1 e2 hle => by
      by_cases hlt : (j : Int) < xi
      · rcases (h.both j _ _ y q hj hf e e1 e2).1 p1 hlt with h8 | h8
        · exact .inl h8
        · exact .inr (h8.keep _)
      · have hji : j = xi.toNat := by omega
        subst hji
        rw [hu]
        exact .inr (Hs.mark (by omega))
     have hsc : chen.scanC { k := xk,w := (w : Int),s := xs,c := xc,st := xst,ia := xia,il := xil,ic := xic,wr := xwr,ra := xra,rl := o.rl,rc := xrc,op := 2,reader := xrd,phase := xph,i := xi,tries := xtr,a := xa,b := xb,used := xus,m := mv,base := 0,size := xsz,code := xcode,steps := xsteps + 1,over := false } u = if o.rl <= xi.toNat + 1 then { k := xk,w := (w : Int),s := xs,c := xc,st := xst,ia := xia,il := xil,ic := xic,wr := xwr,ra := xra,rl := o.rl,rc := xrc,op := 2,reader := xrd,phase := 2,i := 0,tries := xtr,a := xa,b := bitm.freeU (bitm.markU (bitm.markU xus u) xa),used := bitm.markU (bitm.markU xus u) xa,m := mv,base := 0,size := xsz,code := xcode,steps := xsteps + 1,over := false } else { k := xk,w := (w : Int),s := xs,c := xc,st := xst,ia := xia,il := xil,ic := xic,wr := xwr,ra := xra,rl := o.rl,rc := xrc,op := 2,reader := xrd,phase := xph,i := (xi.toNat : Int) + 1,tries := xtr,a := xa,b := xb,used := bitm.markU xus u,m := mv,base := 0,size := xsz,code := xcode,steps := xsteps + 1,over := false } := rfl
     rw [hsc]
     by_cases hlast : o.rl <= xi.toNat + 1
     · simp only [if_pos hlast]
       refine ⟨⟨hw.symm,t2,rfl,rfl,rfl,t6⟩, ?_,fun h0 => by omega⟩
       rw [if_neg (by simp)]
       have hub2 := bitm.markU_bd hub (s := xa) (by omega)
       refine h.setW ⟨w1,fun _ _ => ha,fun _ => ⟨?_, ?_,Pt.zero hrlen⟩,fun e => (by cases e),fun e => (by cases e)⟩ (fun j y q hj e e1 e2 => ⟨fun e2 => (by cases e2),fun _ => ?_⟩) (fun j y q hj e e1 e2 => .inl (hnl (by omega) j y q hj e e1 e2))
       · exact free_ne hub2 (Hs.mark (by omega))
       · have := bitm.freeU_bd (u := bitm.markU (bitm.markU xus u) xa) (by omega)
         exact this.1
       · intro e3
         simp only at e3
         rcases hmark j y q hj e e1 e2 (by omega) with h8 | h8
         · exact free_ne hub2 (Hs.mark (u := bitm.markU xus u) (s := xa) (by omega)) (by rw [<- e3,h8])
         · exact free_ne hub2 (h8.keep xa) e3.symm
     · simp only [if_neg hlast]
       refine ⟨⟨hw.symm,t2,rfl,rfl,rfl,t6⟩, ?_,fun h0 => by omega⟩
       rw [if_neg (by simp)]
       refine h.setW ⟨w1,fun _ _ => ha,fun e => by simp only at e; omega,fun e => by simp only at e; omega,fun e => by simp only at e; omega⟩ (fun j y q hj e e1 e2 => ⟨fun _ e3 => ?_,fun e2 => by simp only at e2; omega⟩) (fun j y q hj e e1 e2 => .inl (hnl (by omega) j y q hj e e1 e2))
       simp only at e3
       exact hmark j y q hj e e1 e2 (by omega)
   by_cases p2 : xph = 2
   · simp only [if_neg p0,if_neg p1,if_pos p2]
     have ha := w2 (by omega) (by omega)
     obtain ⟨c1,c3,c2⟩ := w4 p2
     have hpl : chen.place { k := xk,w := (w : Int),s := xs,c := xc,st := xst,ia := xia,il := xil,ic := xic,wr := xwr,ra := xra,rl := o.rl,rc := xrc,op := 2,reader := xrd,phase := xph,i := xi,tries := xtr,a := xa,b := xb,used := xus,m := mv,base := 0,size := xsz,code := xcode,steps := xsteps + 1,over := false } xb = 1 + o.rl + xb.toNat * w := place_eq (1 + o.rl) xb w c3
     rw [hpl,Nat.add_assoc]
     have hil : xi.toNat < w := by
      have h9 := hi.2
      rw [if_neg (by omega)] at h9
      omega
     have hlt : 1 + o.rl + (xb.toNat * w + xi.toNat) < ws.length := by
      have := idx_lt (s := o.rl + 2) (w := w) (j := xb.toNat) (i := xi.toNat) (by omega) hil
      omega
     have hP := c2.step hil hlt
     have hh : ∀ c,c < 1 + o.rl -> (ws.set (1 + o.rl + (xb.toNat * w + xi.toNat)) (r.getD xi.toNat 0)).getD c 0 = ws.getD c 0 := fun c hc => by rw [getD_set,if_neg (fun e => by omega)]
     have hN := hnl (by omega)
     have hset : ∀ (x' : Core) (r' : List Int),ChenW ok (1 + o.rl) w (ws.set (1 + o.rl + (xb.toNat * w + xi.toNat)) (r.getD xi.toNat 0)) x' r' -> x'.phase = 2 \/ x'.phase = 3 -> x'.b = xb -> ChenI ok o.rl w (ws.set (1 + o.rl + (xb.toNat * w + xi.toNat)) (r.getD xi.toNat 0)) (upd f 0 (some (x',r'))) := fun x' r' hW hx hxb => by
      refine ⟨by rw [List.length_set]; exact h.len,by rw [hh 0 (by omega)]; exact h.l,fun j hj => by rw [hh _ (by omega)]; exact h.c j hj,by rw [hh 0 (by omega)]; exact h.v.slot hil (by omega) _,fun x r e => ?_,fun j y q hj e => ?_,fun j x r y q hj e1 e2 => ?_,fun j y q hj e e1 e2 => ?_⟩
      · rw [upd_self] at e
        cases e
        exact hW
      · rw [upd_ne _ _ (by omega)] at e
        have R := h.rd j y q hj e
        have hcj := h.c j hj
        have hG : 1 <= y.phase -> ws.getD (1 + j) 0 ≠ (o.rl : Int) + 2 -> xb.toNat ≠ (ws.getD (1 + j) 0).toNat := fun e1 e2 => by
         have h8 := (h.both j _ _ y q hj hf e e1 e2).2 (.inl p2)
         simp only at h8
         omega
        refine ⟨fun e1 e2 => ?_,fun e1 => ⟨(R.p2 e1).1,fun e2 => ?_⟩,fun e1 => by rw [hh _ (by omega)]; exact R.p3 e1,fun e1 => ⟨by rw [hh _ (by omega)]; exact (R.p4 e1).1,(R.p4 e1).2.1,(R.p4 e1).2.2.slot hil ?_ _⟩⟩
        · rw [hh _ (by omega)] at e2 ⊢
          exact (R.rg e1 e2).slot hil (hG e1 e2) _
        · rw [hh _ (by omega)] at e2
          have h8 := hN j y q hj e e1 e2
          exact ((R.p2 e1).2 e2).slot hil (by have := (R.p2 e1).1; omega) _
        · have h8 := R.p4 e1
          have := hG (by omega) (by rw [h8.1]; omega)
          rw [h8.1] at this
          exact this
      · rw [upd_self] at e1
        rw [upd_ne _ _ (by omega)] at e2
        cases e1
        unfold ChenB
        rw [hh _ (by omega)]
        intro e3 e4
        refine ⟨fun e5 => by omega,fun _ => ?_⟩
        rw [hxb]
        exact (h.both j _ _ y q hj hf e2 e3 e4).2 (.inl p2)
      · rw [upd_ne _ _ (by omega)] at e
        rw [hh _ (by omega)] at e2
        rw [hh 0 (by omega)]
        exact .inl (hN j y q hj e e1 e2)
     by_cases hlast : w <= xi.toNat + 1
     · simp only [if_pos hlast]
       refine ⟨⟨hw.symm,t2,rfl,rfl,rfl,t6⟩, ?_,fun h0 => by omega⟩
       rw [if_neg (by simp)]
       exact hset _ _ ⟨w1,fun _ _ => by rw [hh 0 (by omega)]; exact ha,fun e => (by cases e),fun _ => ⟨c1,c3,by rwa [show xi.toNat + 1 = w by omega] at hP⟩,fun e => (by cases e)⟩ (.inr rfl) rfl
     · simp only [if_neg hlast]
       refine ⟨⟨hw.symm,t2,rfl,rfl,rfl,t6⟩, ?_,fun h0 => by omega⟩
       rw [if_neg (by simp)]
       exact hset _ _ ⟨w1,fun _ _ => by rw [hh 0 (by omega)]; exact ha,fun _ => ⟨c1,c3,by rw [show ((xi.toNat : Int) + 1).toNat = xi.toNat + 1 by omega]; exact hP⟩,fun e => by simp only at e; omega,fun e => by simp only at e; omega⟩ (.inl p2) rfl
   by_cases p3 : xph = 3
   · simp only [if_neg p0,if_neg p1,if_neg p2,if_pos p3]
     obtain ⟨c1,c3,c2⟩ := w5 p3
     have hg0 : (ws.set 0 xb).getD 0 0 = xb := by rw [getD_set,if_pos ⟨rfl,by omega⟩]
     have hg : ∀ c,c ≠ 0 -> (ws.set 0 xb).getD c 0 = ws.getD c 0 := fun c hc => by rw [getD_set,if_neg (fun e => hc e.1.symm)]
     refine ⟨⟨hw.symm,t2,rfl,rfl,rfl,t6⟩, ?_,fun h0 => by omega⟩
     rw [if_neg (by simp)]
     refine ⟨by rw [List.length_set]; exact h.len,by rw [hg0]; exact ⟨hb.1,hb.2⟩,fun j hj => by rw [hg _ (by omega)]; exact h.c j hj,by rw [hg0]; exact (c2.whole w1).head (by omega) _,fun x r e => ?_,fun j y q hj e => ?_,fun j x r y q hj e1 e2 => ?_,fun j y q hj e e1 e2 => ?_⟩
     · rw [upd_self] at e
       cases e
       exact ⟨w1,fun _ e => by simp only at e; omega,fun e => (by cases e),fun e => (by cases e),fun _ => hg0.symm⟩
     · rw [upd_ne _ _ (by omega)] at e
       have R := h.rd j y q hj e
       exact ⟨fun e1 e2 => by rw [hg _ (by omega)] at e2 ⊢; exact (R.rg e1 e2).head (by omega) _,fun e1 => ⟨(R.p2 e1).1,fun e2 => by rw [hg _ (by omega)] at e2; exact ((R.p2 e1).2 e2).head (by omega) _⟩,fun e1 => by rw [hg _ (by omega)]; exact R.p3 e1,fun e1 => ⟨by rw [hg _ (by omega)]; exact (R.p4 e1).1,(R.p4 e1).2.1,(R.p4 e1).2.2.head (by omega) _⟩⟩
     · rw [upd_self] at e1
       cases e1
       intro e3 e4
       exact ⟨fun e5 => (by cases e5),fun e5 => (by rcases e5 with e5 | e5 <;> cases e5)⟩
     · exact .inr ⟨_,_,upd_self _ _ _,rfl,by show (0 : Int) <= _; omega⟩
   · simp only [if_neg p0,if_neg p1,if_neg p2,if_neg p3]
     have hp4 : xph = 4 := by omega
     have hbl := w6 hp4
     have hil : xi.toNat < o.rl := by
      have h9 := hi.2
      rw [if_pos ⟨rfl, .inr hp4⟩] at h9
      omega
     obtain ⟨ws',hws'⟩ : ∃ z,core.swapL ws (1 + xi.toNat) ((o.rl : Int) + 2) xb = z := ⟨_,rfl⟩
     have hlen' : ws'.length = ws.length := by
      rw [<- hws']
      unfold core.swapL
      split
      · exact List.length_set
      · rfl
     have hg : ∀ c,c ≠ 1 + xi.toNat -> ws'.getD c 0 = ws.getD c 0 := fun c hc => by
      rw [<- hws']
      unfold core.swapL
      split
      · rw [getD_set,if_neg (fun e => hc e.1.symm)]
      · rfl
     have hgi : ws'.getD (1 + xi.toNat) 0 = if ws.getD (1 + xi.toNat) 0 = (o.rl : Int) + 2 then xb else ws.getD (1 + xi.toNat) 0 := by
      rw [<- hws']
      unfold core.swapL
      split
      · rw [getD_set,if_pos ⟨rfl,by omega⟩]
      · rfl
     have hwh : ∀ j,Wh ok ws (1 + o.rl) w j -> Wh ok ws' (1 + o.rl) w j := fun j hj => by
      rw [<- hws']
      unfold core.swapL
      split
      · exact hj.head (by omega) _
      · exact hj
     have hrd' : ∀ j i q,Rd ok ws (1 + o.rl) w j i q -> Rd ok ws' (1 + o.rl) w j i q := fun j i q hj => by
      rw [<- hws']
      unfold core.swapL
      split
      · exact hj.head (by omega) _
      · exact hj
     have hne : ws'.getD (1 + xi.toNat) 0 ≠ (o.rl : Int) + 2 := by
      rw [hgi]
      split
      · omega
      · assumption
     have hv := h.v
     rw [<- hbl] at hv
     have hR' : ∀ (j : Nat) y q,j < o.rl -> f (j + 1) = some (y,q) -> ChenR ok o.rl w j ws' y q := fun j y q hj e => by
      have R := h.rd j y q hj e
      by_cases hji : j = xi.toNat
      · subst hji
        refine ⟨fun e1 _ => ?_,fun e1 => ⟨(R.p2 e1).1,fun e2 => absurd e2 hne⟩,fun _ => hne,fun e1 => ?_⟩
        · rw [hgi]
          split
          · exact hwh _ hv
          · rename_i hgn
            exact hwh _ (R.rg e1 hgn)
        · have h8 := R.p4 e1
          refine ⟨?_,h8.2.1,hrd' _ _ _ h8.2.2⟩
          rw [hgi,if_neg (by rw [h8.1]; omega)]
          exact h8.1
      · have hc : 1 + j ≠ 1 + xi.toNat := by omega
        exact ⟨fun e1 e2 => by rw [hg _ hc] at e2 ⊢; exact hwh _ (R.rg e1 e2),fun e1 => ⟨(R.p2 e1).1,fun e2 => by rw [hg _ hc] at e2; exact hwh _ ((R.p2 e1).2 e2)⟩,fun e1 => by rw [hg _ hc]; exact R.p3 e1,fun e1 => ⟨by rw [hg _ hc]; exact (R.p4 e1).1,(R.p4 e1).2.1,hrd' _ _ _ (R.p4 e1).2.2⟩⟩
     have hC' : ∀ j,j < o.rl -> 0 <= ws'.getD (1 + j) 0 /\ ws'.getD (1 + j) 0 <= (o.rl : Int) + 2 := fun j hj => by
      by_cases hji : j = xi.toNat
      · subst hji
        rw [hgi]
        split
        · omega
        · exact h.c _ hj
      · rw [hg _ (by omega)]
        exact h.c j hj
     have hN' : ∀ (j : Nat) y q,j < o.rl -> f (j + 1) = some (y,q) -> y.phase = 2 -> ws'.getD (1 + j) 0 = (o.rl : Int) + 2 -> y.a = ws.getD 0 0 \/ (xi.toNat : Int) + 1 <= j := fun j y q hj e e1 e2 => by
      by_cases hji : j = xi.toNat
      · subst hji
        exact absurd e2 hne
      · rw [hg _ (by omega)] at e2
        rcases h.nl j y q hj e e1 e2 with h1 | ⟨x,r,h1,h2,h3⟩
        · exact .inl h1
        · rw [hf] at h1
          injection h1 with h1
          injection h1 with h1 _
          subst h1
          simp only at h3
          exact .inr (by omega)
     by_cases hlast : o.rl <= xi.toNat + 1
     · simp only [if_pos hlast]
       refine ⟨⟨hw.symm,t2,rfl,rfl,rfl,t6⟩, ?_,fun h0 => by omega⟩
       rw [if_pos (by simp)]
       show ChenI ok o.rl w (core.swapL ws (1 + xi.toNat) ((o.rl : Int) + 2) xb) _
       rw [hws']
       refine ⟨by rw [hlen']; exact h.len,by rw [hg 0 (by omega)]; exact h.l,hC',by rw [hg 0 (by omega)]; exact hwh _ h.v,fun x r e => (by rw [upd_self] at e; cases e),fun j y q hj e => hR' j y q hj (by rw [upd_ne _ _ (by omega)] at e; exact e),fun j x r y q hj e1 e2 => (by rw [upd_self] at e1; cases e1),fun j y q hj e e1 e2 => ?_⟩
       rw [upd_ne _ _ (by omega)] at e
       rw [hg 0 (by omega)]
       rcases hN' j y q hj e e1 e2 with h1 | h1
       · exact .inl h1
       · omega
     · simp only [if_neg hlast]
       refine ⟨⟨hw.symm,t2,rfl,rfl,rfl,t6⟩, ?_,fun h0 => by omega⟩
       rw [if_neg (by simp)]
       show ChenI ok o.rl w (core.swapL ws (1 + xi.toNat) ((o.rl : Int) + 2) xb) _
       rw [hws']
       refine ⟨by rw [hlen']; exact h.len,by rw [hg 0 (by omega)]; exact h.l,hC',by rw [hg 0 (by omega)]; exact hwh _ h.v,fun x r e => ?_,fun j y q hj e => hR' j y q hj (by rw [upd_ne _ _ (by omega)] at e; exact e),fun j x r y q hj e1 e2 => ?_,fun j y q hj e e1 e2 => ?_⟩
       · rw [upd_self] at e
         cases e
         exact ⟨w1,fun _ e => by simp only at e; omega,fun e => by simp only at e; omega,fun e => by simp only at e; omega,fun _ => by rw [hg 0 (by omega)]; exact hbl⟩
       · rw [upd_self] at e1
         cases e1
         intro e3 e4
         exact ⟨fun e5 => by simp only at e5; omega,fun e5 => by simp only at e5; omega⟩
       · rw [upd_ne _ _ (by omega)] at e
         rw [hg 0 (by omega)]
         rcases hN' j y q hj e e1 e2 with h1 | h1
         · exact .inl h1
         · exact .inr ⟨_,_,upd_self _ _ _,hp4,h1⟩
  | k + 1,hf,hk,t5,t6 =>
   rw [if_neg (by omega)] at t5
   subst t5
   have hkr : k < o.rl := by omega
   have hrd : xrd.toNat = k := by have := t6 (by omega); omega
   obtain ⟨y1,y2,y3,y4⟩ := h.rd k _ _ hkr hf
   simp only at y1 y2 y3 y4
   have hck := h.c k hkr
   have hrlen : xph ≠ 4 -> r = [] := fun n1 => by
    rcases chen.Shape.op hs with ⟨h3,_⟩ | ⟨_,_,h3⟩
    · cases h3
    · have := h3 rfl
      simp only at this
      rw [if_neg n1] at this
      exact List.eq_nil_of_length_eq_zero (by omega)
   simp only [chen.step,if_neg (show ¬ (1 : Int) = 2 by decide),chen.stepR,hz,Nat.zero_add,hwn,hrd]
   have hgm : ∀ v,(ws.set (1 + k) v).getD (1 + k) 0 = v := fun v => by rw [getD_set,if_pos ⟨rfl,by omega⟩]
   have hg0 : ∀ v,(ws.set (1 + k) v).getD 0 0 = ws.getD 0 0 := fun v => by rw [getD_set,if_neg (fun e => by omega)]
   have hup0 : ∀ v,(upd f (k + 1) v) 0 = f 0 := fun v => upd_ne _ _ (by omega)
   by_cases p0 : xph = 0
   · simp only [if_pos p0]
     refine ⟨⟨hw.symm,t2,rfl,rfl,rfl,t6⟩, ?_,fun _ e => by simp at e⟩
     rw [if_neg (by simp), ← upd_upd f (k + 1) none]
     exact (h.mine hkr (by omega)).setR hkr ⟨fun _ e2 => absurd (hgm _) e2,fun e => (by cases e),fun e => (by cases e),fun e => (by cases e)⟩ (fun x r e e1 e2 => absurd (hgm _) e2) (fun e => (by cases e))
   by_cases p1 : xph = 1
   · simp only [if_neg p0,if_pos p1]
     refine ⟨⟨hw.symm,t2,rfl,rfl,rfl,t6⟩, ?_,fun _ e => by simp at e⟩
     rw [if_neg (by simp)]
     exact h.setR hkr ⟨fun _ e2 => y1 (by omega) e2,fun _ => ⟨hl,fun _ => h.v⟩,fun e => (by cases e),fun e => (by cases e)⟩ (fun x r e e1 e2 => h.both k x r _ _ hkr e hf (by simp only; omega) e2) (fun _ _ => .inl rfl)
   by_cases p2 : xph = 2
   · simp only [if_neg p0,if_neg p1,if_pos p2]
     obtain ⟨hab,hawh⟩ := y2 p2
     refine ⟨⟨hw.symm,t2,rfl,rfl,rfl,t6⟩, ?_,fun _ e => by simp at e⟩
     rw [if_neg (by simp)]
     show ChenI ok o.rl w (core.swapL ws (1 + k) ((o.rl : Int) + 2) xa) _
     unfold core.swapL
     by_cases hG : ws.getD (1 + k) 0 = (o.rl : Int) + 2
     · rw [if_pos hG, ← upd_upd f (k + 1) none]
       refine (h.mine hkr (by omega)).setR hkr ⟨fun _ _ => ?_,fun e => (by cases e),fun _ => ?_,fun e => (by cases e)⟩ (fun x r e e1 e2 => ?_) (fun e => (by cases e))
       · rw [hgm]
         exact (hawh hG).head (by omega) _
       · rw [hgm]; omega
       · rw [hup0] at e
         rw [hgm]
         have W := h.wr x r e
         rcases h.nl k _ _ hkr hf p2 hG with h8 | ⟨x',r',h8,h9,_⟩
         · simp only at h8
           refine ⟨fun e3 _ => .inl ?_,fun e3 => ?_⟩
           · rw [h8]; exact (W.a (by omega) (by omega)).symm
           · have h10 := W.a (by omega) (by omega)
             rcases e3 with e3 | e3
             · have := (W.p2 e3).1; omega
             · have := (W.p3 e3).1; omega
         · rw [e] at h8
           injection h8 with h8
           injection h8 with h8 _
           subst h8
           exact ⟨fun e3 => by omega,fun e3 => by omega⟩
     · rw [if_neg hG]
       exact h.setR hkr ⟨fun _ e2 => y1 (by omega) e2,fun e => (by cases e),fun _ => hG,fun e => (by cases e)⟩ (fun x r e e1 e2 => h.both k x r _ _ hkr e hf (by simp only; omega) e2) (fun e => (by cases e))
   by_cases p3 : xph = 3
   · simp only [if_neg p0,if_neg p1,if_neg p2,if_pos p3]
     have hG := y3 p3
     have hm : ws.getD (1 + k) 0 % ((o.rl : Int) + 2) = ws.getD (1 + k) 0 := Int.emod_eq_of_lt hck.1 (by omega)
     rw [hm]
     refine ⟨⟨hw.symm,t2,rfl,rfl,rfl,t6⟩, ?_,fun _ e => by simp at e⟩
     rw [if_neg (by simp),hrlen (by omega)]
     refine h.setR hkr ⟨fun _ e2 => y1 (by omega) e2,fun e => (by cases e),fun e => (by cases e),fun _ => ⟨rfl,by show ws.getD (1 + k) 0 < _; omega, ?_⟩⟩ (fun x r e e1 e2 => h.both k x r _ _ hkr e hf (by simp only; omega) e2) (fun e => (by cases e))
     exact (y1 (by omega) hG).rd
   · simp only [if_neg p0,if_neg p1,if_neg p2,if_neg p3]
     have hp4 : xph = 4 := by
      rcases chen.Shape.op hs with ⟨h3,_⟩ | ⟨_,h3,_⟩
      · cases h3
      · simp only at h3; omega
     obtain ⟨b1,b2,b4⟩ := y4 hp4
     have hpl : chen.place { k := xk,w := (w : Int),s := xs,c := xc,st := xst,ia := xia,il := xil,ic := xic,wr := xwr,ra := xra,rl := o.rl,rc := xrc,op := 1,reader := xrd,phase := xph,i := xi,tries := xtr,a := xa,b := xb,used := xus,m := mv,base := 0,size := xsz,code := xcode,steps := xsteps + 1,over := false } xb = 1 + o.rl + xb.toNat * w := place_eq (1 + o.rl) xb w hb.1
     rw [hpl,Nat.add_assoc]
     have hil : xi.toNat < w := by
      have h9 := hi.2
      rw [if_neg (by omega)] at h9
      omega
     have hst4 := b4.step hil
     by_cases hlast : w <= xi.toNat + 1
     · simp only [if_pos hlast]
       refine ⟨⟨hw.symm,t2,rfl,rfl,rfl,t6⟩, ?_,fun _ _ _ => ?_⟩
       · rw [if_pos (by simp)]
         exact h.endR k
       · rw [show xi.toNat + 1 = w by omega] at hst4
         exact hst4.all
     · simp only [if_neg hlast]
       refine ⟨⟨hw.symm,t2,rfl,rfl,rfl,t6⟩, ?_,fun _ e => by simp at e⟩
       rw [if_neg (by simp)]
       refine h.setR hkr ⟨fun _ e2 => y1 (by omega) e2,fun e => by simp only at e; omega,fun e => by simp only at e; omega,fun _ => ⟨b1,b2, ?_⟩⟩ (fun x r e e1 e2 => h.both k x r _ _ hkr e hf (by simp only; omega) e2) (fun e => by simp only at e; omega)
       rw [show ((xi.toNat : Int) + 1).toNat = xi.toNat + 1 by omega]
       exact hst4
structure One (kk : Nat) (T : TypeId) (w0 r0 : Int) (K : Kind) (o : ObV) (ini ws : List Int) : Prop where
 kind : KindOK kk T w0 r0 K
 w : wOp o.k = w0
 r : rOp o.k = r0
 right : RightO kk o
 lay : LayO o.k o.w o.s o.c o.st o.ia o.il o.ic o.wr o.ra o.rl o.rc ini ws
 left : ∀ op rd,K.left (frO o op rd) <= ((400 : Nat) : Int)
 whole : ∀ (ok : List Int -> Prop) (ps : List Pr) (ts : List Int) (mv : Value) (L : Lo),(o.k ≠ 6 -> ok ini) -> (∀ p,ps[0]? = some p -> ∀ t ∈ p.l,ok t.wds) -> ps.length = o.rl + 1 -> ts.length <= 1000 -> Fin kk w0 r0 K o mv ws ps ts L -> ∀ c ∈ L.cs,c.proc ≠ 0 -> c.code = 0 -> ok c.wds
theorem whole_of {kk : Nat} {w0 r0 : Int} {K : Kind} {o : ObV} {ok : List Int -> Prop} {I : Nat -> List Int -> (Nat -> Option (Core × List Int)) -> Prop} {ws : List Int} (A : Alg w0 r0 K o ok I) (hI : I 0 ws (fun _ => none)) {ps : List Pr} {ts : List Int} {mv : Value} {L : Lo} (hok : ∀ p,ps[0]? = some p -> ∀ t ∈ p.l,ok t.wds) (hl : ps.length = o.rl + 1) (ht : ts.length <= 1000) (h : Fin kk w0 r0 K o mv ws ps ts L) : ∀ c ∈ L.cs,c.proc ≠ 0 -> c.code = 0 -> ok c.wds := by
 obtain ⟨ds,h1,h2,h3⟩ := h.run
 have hv := runs_inv A (by simp only [lo0,List.length_map]; exact hl) (Inv.start (w0 := w0) (r0 := r0) (o := o) (ps := ps) hI hok) h3 (by rw [List.length_append]; show 0 + _ <= _; omega)
 rw [<- h2] at hv
 exact hv.whole h.done
theorem mul_le_150 {a b : Int} (h1 : 0 <= a /\ a <= 15) (h2 : 0 <= b /\ b <= 10) : a * b <= 150 := by
 have := Int.mul_le_mul h1.2 h2.2 h2.1 (show (0 : Int) <= 15 by decide)
 omega
theorem left_four {o : ObV} (h : RightO 1 o) (op rd : Int) : four.K.left (frO o op rd) <= ((400 : Nat) : Int) := by
 have hbd := rightB_bd h.2.2
 have e : four.K.left (frO o op rd) = four.left (frO o op rd) := rfl
 rw [e]
 simp [four.left,frO,freshC]
 (repeat' split) <;> omega
theorem left_chen {o : ObV} (h : RightO 2 o) (op rd : Int) : chen.K.left (frO o op rd) <= ((400 : Nat) : Int) := by
 have hbd := rightB_bd h.2.2
 have e : chen.K.left (frO o op rd) = chen.left (frO o op rd) := rfl
 rw [e]
 simp [chen.left,frO,freshC]
 (repeat' split) <;> omega
theorem left_seq {o : ObV} (h : RightO 3 o) (op rd : Int) : seq.K.left (frO o op rd) <= ((400 : Nat) : Int) := by
 have hbd := rightB_bd h.2.2
 have hc : 1 <= o.c := by have := h.2.2; simp [rightB] at this; omega
 have hm := mul_le_150 (a := o.c - 1) (b := o.w + 2) (by omega) (by omega)
 have e : seq.K.left (frO o op rd) = seq.left (frO o op rd) := rfl
 rw [e]
 simp [seq.left,frO,freshC]
 (repeat' split) <;> omega
theorem left_ring {o : ObV} (h : RightO 4 o) (op rd : Int) : ring.K.left (frO o op rd) <= ((400 : Nat) : Int) := by
 have hbd := rightB_bd h.2.2
 have hc : 1 <= o.c := by have := h.2.2; simp [rightB] at this; omega
 have hm := mul_le_150 (a := o.c - 1) (b := o.w + 2) (by omega) (by omega)
 have e : ring.K.left (frO o op rd) = ring.left (frO o op rd) := rfl
 rw [e]
 simp [ring.left,frO,freshC]
 (repeat' split) <;> omega
theorem left_cab {o : ObV} (h : RightO 5 o) (op rd : Int) : cab.K.left (frO o op rd) <= ((400 : Nat) : Int) := by
 have hbd := rightB_bd h.2.2
 have e : cab.K.left (frO o op rd) = cab.left (frO o op rd) := rfl
 rw [e]
 simp [cab.left,frO,freshC]
 (repeat' split) <;> omega
theorem left_fifo {o : ObV} (h : RightO 6 o) (op rd : Int) : fifo.K.left (frO o op rd) <= ((400 : Nat) : Int) := by
 have hbd := rightB_bd h.2.2
 have := fifo_left o (by omega) op rd
 omega
theorem one_any (o : ObV) (hO : ObjW o.k o.w o.s o.c o.st o.il o.rl) (hB : rightB o.k o.w o.s o.c o.st o.il o.rl = true) {W : World} {ini : List Int} (hi : ReadsW W (.slice o.ia o.il o.ic) ini) :
 ∃ (kk : Nat) (T : TypeId) (w0 r0 : Int) (K : Kind) (ws : List Int),One kk T w0 r0 K o ini ws := by
 have hbd := rightB_bd hB
 have hil : ini.length = o.il := by obtain ⟨_,_,he,_⟩ := reads_slice hi.1; simp at he; exact he.2.1.symm
 obtain ⟨w,hw⟩ : ∃ w : Nat,o.w = w := ⟨o.w.toNat,by omega⟩
 obtain ⟨s,hs⟩ : ∃ s : Nat,o.s = s := ⟨o.s.toNat,by omega⟩
 have hst := hO.st32
 have hk : o.k = 1 \/ o.k = 2 \/ o.k = 3 \/ o.k = 4 \/ o.k = 5 \/ o.k = 6 := by omega
 have hilw : o.k ≠ 6 -> ini.length = w := fun h6 => by
  simp only [rightB,decide_eq_true_eq] at hB
  omega
 rcases hk with h | h | h | h | h | h
 · have hr : RightO 1 o := ⟨h,hO,by rw [<- hB,h]⟩
   have hl := layO_four o.k o.w o.s o.c o.st o.ia o.il o.ic o.wr o.ra o.rl o.rc ini hO h hB W hi
   rw [show o.w.toNat = w by omega] at hl
   exact ⟨1,_,2,1,_,_,kok_four,by rw [h]; rfl,by rw [h]; rfl,hr,hl,left_four hr,fun ok ps ts mv L h1 h2 h3 h4 h5 => whole_of (four_alg hr hw) (four_start (hilw (by omega)) (h1 (by omega))) h2 h3 h4 h5⟩
 · have hr : RightO 2 o := ⟨h,hO,by rw [<- hB,h]⟩
   have hl := layO_chen o.k o.w o.s o.c o.st o.ia o.il o.ic o.wr o.ra o.rl o.rc ini hO h hB W hi
   refine ⟨2,_,2,1,_,_,kok_chen,by rw [h]; rfl,by rw [h]; rfl,hr,hl,left_chen hr,fun ok ps ts mv L h1 h2 h3 h4 h5 => whole_of (chen_alg hr hw) ?_ h2 h3 h4 h5⟩
   rw [hw]
   exact chen_begin (hilw (by omega)) (h1 (by omega))
 · have hr : RightO 3 o := ⟨h,hO,by rw [<- hB,h]⟩
   have hl := layO_seq o.k o.w o.s o.c o.st o.ia o.il o.ic o.wr o.ra o.rl o.rc ini hO h hB W hi
   exact ⟨3,_,2,1,_,_,kok_seq,by rw [h]; rfl,by rw [h]; rfl,hr,hl,left_seq hr,fun ok ps ts mv L h1 h2 h3 h4 h5 => whole_of (seq_alg hr hw) ⟨0,seq_start hst (hilw (by omega)) (h1 (by omega))⟩ h2 h3 h4 h5⟩
 · have hr : RightO 4 o := ⟨h,hO,by rw [<- hB,h]⟩
   have hl := layO_ring o.k o.w o.s o.c o.st o.ia o.il o.ic o.wr o.ra o.rl o.rc ini hO h hB W hi
   have hs2 : 2 <= o.s /\ o.st < o.s * 1048576 := by
    simp only [rightB,decide_eq_true_eq] at hB
    omega
   refine ⟨4,_,2,1,_,_,kok_ring,by rw [h]; rfl,by rw [h]; rfl,hr,hl,left_ring hr,fun ok ps ts mv L h1 h2 h3 h4 h5 => whole_of (ring_alg hr hs hw) ⟨0, ?_⟩ h2 h3 h4 h5⟩
   rw [hs,hw]
   exact ring_begin (by omega) (by rw [<- hs]; omega) (hilw (by omega)) (h1 (by omega))
 · have hr : RightO 5 o := ⟨h,hO,by rw [<- hB,h]⟩
   have hl := layO_cab o.k o.w o.s o.c o.st o.ia o.il o.ic o.wr o.ra o.rl o.rc ini hO h hB W hi
   have hs2 : 3 <= o.s := by
    simp only [rightB,decide_eq_true_eq] at hB
    omega
   refine ⟨5,_,2,1,_,_,kok_cab,by rw [h]; rfl,by rw [h]; rfl,hr,hl,left_cab hr,fun ok ps ts mv L h1 h2 h3 h4 h5 => whole_of (cab_alg hr hs hw) ?_ h2 h3 h4 h5⟩
   rw [hs,hw]
   exact cab_begin (by omega) (hilw (by omega)) (h1 (by omega))
 · have hr : RightO 6 o := ⟨h,hO,by rw [<- hB,h]⟩
   have hl := layO_fifo o.k o.w o.s o.c o.st o.ia o.il o.ic o.wr o.ra o.rl o.rc ini hO h hB W hi
   have hs2 : 1 <= o.s /\ o.st < 2 * o.s := by
    simp only [rightB,decide_eq_true_eq] at hB
    omega
   refine ⟨6,_,3,4,_,_,kok_fifo,by rw [h]; rfl,by rw [h]; rfl,hr,hl,left_fifo hr,fun ok ps ts mv L h1 h2 h3 h4 h5 => whole_of (fifo_alg hr hs hw) ⟨0,0, ?_⟩ h2 h3 h4 h5⟩
   rw [hs,hw]
   exact fifo_begin (by omega) (by rw [<- hs]; omega)
end Go.Proofs.YtphfnjcboellhaaGreatDoor.wv
