import Derived.Test.YtphfnjcboellhaaGreatDoorWvWhole
import Derived.Test.YtphfnjcboellhaaGreatDoorWvBj
import Derived.Test.YtphfnjcboellhaaGreatDoorWvAq
namespace Go.Proofs.YtphfnjcboellhaaGreatDoor.wv
open Go Go.RowKit kit obj mem core
set_option maxRecDepth 20000
theorem one_inp {kk : Nat} {T : TypeId} {w0 r0 : Int} {K : Kind} {o : ObV} {ini ws : List Int} (h : One kk T w0 r0 K o ini ws) {W : World} (ht : bitm.Tab W) {ps : List Pr} {pa : Option Addr} {pc : Nat} (hP : ProcsR W (.slice pa ps.length pc) ps) (hlen : ps.length = o.rl + 1) (hfit : PsFit (wOp o.k) (rOp o.k) o.w ps) (hsp : SmallP ps) (hi : ReadsW W (.slice o.ia o.il o.ic) ini) {ts : List Int} {qa : Option Addr} {qc : Nat} (hT : Reads W 1 (.slice qa ts.length qc) ts.length (ts.map (Value.int .i64))) (hl : ts.length <= 1000) :
 Inp kk w0 r0 o ini ws ps pa pc ts qa qc W := by
 have hsm : ∀ p ∈ ps,p.l.length <= 1000 := fun p hp => by have := (hsp p hp).1; omega
 rw [h.w,h.r] at hfit
 exact ⟨h.right,h.lay,ht,hP,hlen,hfit,hsm,hi,hT,hl⟩
theorem infoWords : (Tryz.prog.info? 23).map (fun i => (i.zero,i.size,i.bytes)) = some (some (.slice none 0 0),1,24) := by kernel_rfl
theorem one_cells (w : World) (v : Value) (T : TypeId) : ∀ (j : Nat) x, [v][j]? = some x -> (w.alloc (.cells #[v] T)).cell? ((⟨w.heap.size,0,none⟩ : Addr).add j) = some x := by
 intro j x hj
 rw [kit.add_plain,Nat.zero_add]
 exact (Blk.new w _ _).cell (by rw [<- Array.getElem?_toList]; exact hj)
def Td.val (t : Td) : Value := .slice t.a t.wds.length t.c
set_option maxHeartbeats 8000000 in
theorem whole_any (o : ObV) (hO : o.il <= 100 -> o.rl <= 100 -> ObjW o.k o.w o.s o.c o.st o.il o.rl) {W : World} (ht : bitm.Tab W) {ini : List Int} (hi : ReadsW W (.slice o.ia o.il o.ic) ini) {ps : List Pr} {pa : Option Addr} {pc : Nat} (hP : ProcsR W (.slice pa ps.length pc) ps) {ts : List Int} {qa : Option Addr} {qc : Nat} (hT : Reads W 1 (.slice qa ts.length qc) ts.length (ts.map (Value.int .i64))) :
 Calls Tryz.prog 4 #[.agg (caseCells o (.slice pa ps.length pc) (.slice qa ts.length qc))] W fun e W' => e = .returned (.bool true) /\ Chg [] W W' := by
 obtain ⟨W0,hW0⟩ : ∃ z,W.alloc (.cells (caseCells o (.slice pa ps.length pc) (.slice qa ts.length qc)) 29) = z := ⟨_,rfl⟩
 have hc0 : Chg [] W W0 := by rw [<- hW0]; exact (Chg.refl _ _).alloc _
 have hbx : Blk W0 W.heap.size (caseCells o (.slice pa ps.length pc) (.slice qa ts.length qc)) 29 := by rw [<- hW0]; exact Blk.new W _ _
 have FA := hid (fun (V : World) (hV : Chg [] W0 V) => (⟨(hbx.keep hV (by simp)).cell (o := 0) rfl,(hbx.keep hV (by simp)).cell (o := 1) rfl,(hbx.keep hV (by simp)).cell (o := 2) rfl,(hbx.keep hV (by simp)).cell (o := 3) rfl,(hbx.keep hV (by simp)).cell (o := 4) rfl,(hbx.keep hV (by simp)).cell (o := 5) rfl,(hbx.keep hV (by simp)).cell (o := 6) rfl,(hbx.keep hV (by simp)).cell (o := 7) rfl,(hbx.keep hV (by simp)).cell (o := 8) rfl,(hbx.keep hV (by simp)).cell (o := 9) rfl⟩ : V.cell? ⟨W.heap.size,0,none⟩ = some (.int .i64 o.k) /\ V.cell? ⟨W.heap.size,1,none⟩ = some (.int .i64 o.w) /\ V.cell? ⟨W.heap.size,2,none⟩ = some (.int .i64 o.s) /\ V.cell? ⟨W.heap.size,3,none⟩ = some (.int .i64 o.c) /\ V.cell? ⟨W.heap.size,4,none⟩ = some (.int .u32 o.st) /\ V.cell? ⟨W.heap.size,5,none⟩ = some (.slice o.ia o.il o.ic) /\ V.cell? ⟨W.heap.size,6,none⟩ = some (.int .i64 o.wr) /\ V.cell? ⟨W.heap.size,7,none⟩ = some (.slice o.ra o.rl o.rc) /\ V.cell? ⟨W.heap.size,8,none⟩ = some (.slice pa ps.length pc) /\ V.cell? ⟨W.heap.size,9,none⟩ = some (.slice qa ts.length qc)))
 have HLI := hid (Light_any o.k o.w o.s o.c o.st o.ia o.il o.ic o.wr o.ra o.rl o.rc qa ts.length qc (hP.chg hc0))
 have HWV := hid (fun (V : World) (hV : Chg [] W0 V) => weaves_ok V (ht.keep (hc0.trans hV)))
 have HM := hid (⟨hO,ht,⟨ini,hi⟩,hP,hT,hc0⟩ : _ /\ _ /\ (∃ ini,ReadsW W (.slice o.ia o.il o.ic) ini) /\ _ /\ _ /\ _)
 simp only [caseCells] at hW0 hbx ⊢
 clear hO ht hi hP hT hc0 hbx
 go_enter Tryz.func4,Tryz.ntmps4
 (try rw [hW0])
 obtain ⟨e0,e1,e2,e3,e4,e5,e6,e7,e8,e9⟩ := FA.out W0 (Chg.refl [] W0)
 go_upto_region 3 with (first
  | (go_at_call 5; (try rw [hW0]); refine HLI.out.mono ?_; rintro e w1 ⟨⟨b,rfl,hb⟩,hc⟩; have HB := hid hb; have HC1 := hid hc; obtain ⟨d0,d1,d2,d3,d4,d5,d6,d7,d8,d9⟩ := FA.out w1 hc; clear hb hc; cases b)
  | (go_at_call 6; obtain ⟨⟨hil,hrl⟩,hp20,hq400,hsp⟩ := HB.out (by first | trivial | rfl); refine (RFault_any o.k o.w o.s o.c o.st o.ia o.il o.ic o.wr o.ra o.rl o.rc (HM.out.1 hil hrl) hrl (HM.out.2.2.2.1.chg (HM.out.2.2.2.2.2.trans HC1.out)) hp20 hsp).mono ?_; rintro e w2 ⟨⟨cd,rfl,hcd⟩,hc⟩; have HLL := hid (⟨HM.out.1 hil hrl,hp20,hq400,hsp⟩ : _ /\ _ /\ _ /\ _); have HC2 := hid (HC1.out.trans hc); have HCD := hid hcd; clear hcd hil hrl hp20 hq400 hsp hc; obtain hz | hne : cd = 0 \/ (cd != 0) = true := (by by_cases hz : cd = 0; exact .inl hz; exact .inr (by simpa using hz)); subst hz)
  | (go_at_call 7; (first | refine (HWV.out _ HC2.out).mono ?_ | refine (HWV.out _ HC1.out).mono ?_); rintro e w3 ⟨rfl,hc⟩; have HC3 := hid hc; clear hc))
 · go_ret
   exact ⟨rfl,HM.out.2.2.2.2.2.trans (HC1.out.trans HC3.out)⟩
 rotate_left
 · go_ret
   exact ⟨rfl,HM.out.2.2.2.2.2.trans (HC2.out.trans HC3.out)⟩
 obtain ⟨hB,hlen,hfit⟩ := HCD.out (by first | trivial | rfl)
 obtain ⟨hO,hp20,hq400,hsp⟩ := HLL.out
 obtain ⟨-,ht,⟨ini,hi⟩,hP,hT,hc0⟩ := HM.out
 obtain ⟨kk,T,w0,r0,K,ws,h2⟩ := one_any o hO hB hi
 have hin := one_inp h2 ht hP hlen hfit hsp hi hT (by omega)
 have hrl := rightB_bd hB
 have hil : ini.length = o.il := by obtain ⟨_,_,he,_⟩ := reads_slice hi.1; simp at he; exact he.2.1.symm
 obtain ⟨⟨p0a,p0c,p0l⟩,hp0⟩ : ∃ p,ps[0]? = some p := ⟨_,List.getElem?_eq_getElem (by omega)⟩
 have hm0 := List.mem_of_getElem? hp0
 have hpl := hsp _ hm0
 obtain ⟨rs0,hrs0⟩ : ∃ z : List (List Int),(if o.k ≠ 6 then [ini] else []) = z := ⟨_,rfl⟩
 obtain ⟨vs0,hvs0⟩ : ∃ z : List Value,(if o.k ≠ 6 then [.slice o.ia o.il o.ic] else []) = z := ⟨_,rfl⟩
 have hrv0 : vs0.length = rs0.length /\ vs0.length <= 1 := by rw [<- hrs0, ← hvs0]; split <;> simp
 have hall : ∀ V,Chg [] W V -> ∀ v,Reads V 1 v (rs0 ++ p0l.map Td.wds).length (vs0 ++ p0l.map Td.val) -> RecsR V v (rs0 ++ p0l.map Td.wds) (vs0 ++ p0l.map Td.val) := fun V hV v hv => by
  refine ⟨hv,by rw [List.length_append,List.length_append,List.length_map,List.length_map,hrv0.1],fun i r u h1 h2 => ?_,fun r hr => ?_⟩
  · rw [List.getElem?_append] at h1 h2
    rw [hrv0.1] at h2
    split at h1
    · rename_i hlt
      rw [if_pos hlt] at h2
      rw [<- hrs0] at h1
      rw [<- hvs0] at h2
      split at h1
      · rename_i h6
        rw [if_pos h6] at h2
        match i,h1,h2 with
        | 0,h1,h2 =>
         cases h1
         cases h2
         exact hi.chg hV
        | i + 1,h1,h2 => simp at h1
      · simp at h1
    · rename_i hlt
      rw [if_neg hlt] at h2
      rw [List.getElem?_map,Option.map_eq_some_iff] at h1 h2
      obtain ⟨t,t1,rfl⟩ := h1
      obtain ⟨t',t2,rfl⟩ := h2
      rw [t1] at t2
      cases t2
      exact (hP.recs _ hm0 t (List.mem_of_getElem? t1)).chg hV
  · rcases List.mem_append.1 hr with hr | hr
    · rw [<- hrs0] at hr
      split at hr
      · rw [List.mem_singleton.1 hr,hil]; have := hO.ilen; omega
      · cases hr
    · obtain ⟨t,t1,rfl⟩ := List.mem_map.1 hr
      have := hpl.2 t t1
      omega
 have hwhole : ∀ mv L,Fin kk w0 r0 K o mv ws ps ts L -> ∀ c ∈ L.cs,c.proc ≠ 0 -> c.code = 0 -> c.wds ∈ rs0 ++ p0l.map Td.wds := fun mv L hfin c hc h0 hcode => by
  refine h2.whole (fun r => r ∈ rs0 ++ p0l.map Td.wds) ps ts mv L (fun h6 => ?_) (fun p hp t ht => ?_) hlen (by omega) hfin c hc h0 hcode
  · rw [<- hrs0,if_pos h6]
    simp
  · rw [hp0] at hp
    cases hp
    exact List.mem_append_right _ (List.mem_map.2 ⟨t,ht,rfl⟩)
 have HFI := hid (fun V (hV : Chg [] W0 V) => Finish_at h2.kind (hin.chg (hc0.trans hV)) h2.left (fun p hp => by have := (hsp p hp).1; omega) ps.length ts.length #[.int .i64 o.k, .int .i64 o.w, .int .i64 o.s, .int .i64 o.c, .int .u32 o.st, .slice o.ia o.il o.ic, .int .i64 o.wr, .slice o.ra o.rl o.rc] rfl rfl rfl)
 have HALL := hid (⟨hall,hwhole,hrv0,hrs0,hvs0⟩ : _ /\ _ /\ _ /\ _ /\ _)
 have HP0 := hid (⟨hP,hp0,hpl,hlen⟩ : _ /\ _ /\ _ /\ _)
 have HZ0 := hid hc0
 have hts : ts.length <= 1000 := by omega
 have HTS := hid hts
 obtain ⟨b1,o1,hx1,hc1, -⟩ := reads_index (P := Tryz.prog) Tryz.underlying27 szTodos hP.row
 have ix0 := hx1 0 (by omega)
 have hq0 := hc1 (0 * 1 + 0) _ (by rw [flatMap_get Pr.cells 1 (fun _ => rfl) ps 0 0 (by decide) _ hp0]; rfl)
 obtain ⟨b2,o2,hx2,hc2, -⟩ := reads_index (P := Tryz.prog) Tryz.underlying41 szTodo (hP.each _ hm0)
 simp only [Pr.val,Nat.zero_mul,Nat.add_zero] at ix0 hq0 hx2
 have ix0' : ∀ u,(Instr.indexAt 27 (.slice pa ps.length pc) (.int .i64 0)).run Tryz.prog u = .ok (.pointer (some ⟨b1,o1,none⟩)) u := fun u => ix0 u
 have HX2 := hid hx2
 have HC2' := hid hc2
 have HQ0 := hid hq0
 clear hts hx1 hc1 ix0 hq0 hx2 hc2 hall hwhole hrv0 hrs0 hvs0 hpl hm0 hp0 hil hrl hin h2 HM HLL HCD HB HLI hB hlen hfit hO hp20 hq400 hsp ht hi hP hT hc0 hW0 e0 e1 e2 e3 e4 e5 e6 e7 e8 e9 d0 d1 d2 d3 d4 d5 d6 d7 d8 d9
 obtain ⟨d0,d1,d2,d3,d4,d5,d6,d7,d8,d9⟩ := FA.out w2 HC2.out
 go_upto_region 5 with (go_at_call 11; refine (HFI.out _ HC2.out).mono ?_; rintro e w4 ⟨mv,a,c,rvs,L,rfl,hcr,hfin,hc⟩; have HCR := hid (⟨hcr,hfin⟩ : _ /\ _); have HC4 := hid (HC2.out.trans hc); obtain ⟨n1,hn1⟩ : ∃ y,L.cs.length = y := ⟨_,rfl⟩; have HN1 := hid hn1; rw [hn1]; clear hcr hfin hc hn1)
 obtain ⟨wE,hwE⟩ : ∃ z,w4.alloc (.cells #[] 23) = z := ⟨_,rfl⟩
 have hcE : Chg [] w4 wE := by rw [<- hwE]; exact (Chg.refl [] w4).alloc _
 have HRE : Hid (wE.ownsRow w4.heap.size 23 1 (.slice (some ⟨w4.heap.size,0,none⟩) 0 0) 0 []) := hid (by rw [<- hwE]; exact World.ownsRow_lit w4 #[] 0 (Nat.le_refl _) (Nat.zero_le _) rfl)
 have HCE := hid hcE
 have HSE : Hid (w4.heap.size <= wE.heap.size) := hid hcE.size
 rw [hwE]
 clear hwE hcE d0 d1 d2 d3 d4 d5 d6 d7 d8 d9
 obtain ⟨d0,d1,d2,d3,d4,d5,d6,d7,d8,d9⟩ := FA.out wE (HC4.out.trans HCE.out)
 obtain ⟨i0,hi0,hz0,hz1,hz2⟩ := info_parts infoWords
 have HI0 := hid (⟨hi0,hz0,hz1,hz2⟩ : _ /\ _ /\ _ /\ _)
 clear hi0 hz0 hz1 hz2
 by_cases h6 : o.k = 6
 · have h6' : (o.k != 6) = false := by rw [h6]; rfl
   obtain ⟨rfl,rfl⟩ : rs0 = [] /\ vs0 = [] := by
    obtain ⟨-, -, -,e1,e2⟩ := HALL.out
    rw [if_neg (by simpa using h6)] at e1 e2
    exact ⟨e1.symm,e2.symm⟩
   clear h6
   have hq0 := HQ0.out
   have hq1 := (HZ0.out.trans (HC4.out.trans HCE.out)).keep hq0 (by simp)
   clear hq0
   go_wp2_with fail
   have HROW : Hid (wE.ownsRow w4.heap.size 23 1 (.slice (some ⟨w4.heap.size,0,none⟩) ([] : List Value).length 0) ([] : List Value).length []) := HRE
   have HCA : Hid (Chg [] w4 wE) := HCE
   clear d0 d1 d2 d3 d4 d5 d6 d7 d8 d9 h6' hq1 ix0'
   go_loopw [5,50] (fun av i wr => ∃ (j : Nat) (oa : Option Addr) (oc : Nat),j <= p0l.length /\ av = .slice oa (j + ([] : List Value).length) oc /\ i = .int .i64 (j : Int) /\ Hid (wr.ownsRow w4.heap.size 23 1 (.slice oa (j + ([] : List Value).length) oc) (j + ([] : List Value).length) (([] : List Value) ++ (p0l.take j).map Td.val)) /\ Hid (Chg [] w4 wr)) (fun _ i _ => p0l.length - (intOf i).toNat)
   case atStart => exact ⟨0,some ⟨w4.heap.size,0,none⟩,0,Nat.zero_le _,rfl,rfl,hid (by rw [List.take_zero,List.map_nil,List.append_nil]; exact HROW.out),HCA⟩
   case round =>
    clear HROW HCA
    obtain ⟨j,oa,oc,hj,rfl,rfl,HO,HJ⟩ := hrel
    by_cases hlt : j < p0l.length
    · have HLT := hid hlt
      have g1 := HX2.out j hlt
      obtain ⟨⟨top,ta,tc,tw⟩,ht⟩ : ∃ t,p0l[j]? = some t := ⟨_,List.getElem?_eq_getElem hlt⟩
      have HT := hid ht
      have hcw : Chg [] W wr := HZ0.out.trans (HC4.out.trans HJ.out)
      have r0 := hcw.keep (HC2'.out (j * 2 + 0) _ (by rw [flatMap_get Td.cells 2 (fun _ => rfl) p0l j 0 (by decide) _ ht]; rfl)) (by simp)
      have r1 := hcw.keep (HC2'.out (j * 2 + 1) _ (by rw [flatMap_get Td.cells 2 (fun _ => rfl) p0l j 1 (by decide) _ ht]; rfl)) (by simp)
      rw [Nat.add_zero] at r0
      rw [<- Nat.add_assoc] at r1
      simp only at r0 r1
      have hcc := one_cells (wr.alloc (.cells #[.int .i64 top, .slice ta tw.length tc] 43)) (.slice ta tw.length tc) 23
      have hca : Chg [] wr ((wr.alloc (.cells #[.int .i64 top, .slice ta tw.length tc] 43)).alloc (.cells #[.slice ta tw.length tc] 23)) := ((Chg.refl _ _).alloc _).alloc _
      have HOA := mem.own_chg HO.out hca (by simp)
      have hb3 : w4.heap.size <= ((wr.alloc (.cells #[.int .i64 top, .slice ta tw.length tc] 43)).alloc (.cells #[.slice ta tw.length tc] 23)).heap.size := by have h1 := HJ.out.size; have h2 := hca.size; omega
      have hjl : j < 20 := by have h1 : p0l.length <= 20 := HP0.out.2.2.1.1; omega
      have HBB : Hid (j + ([] : List Value).length + 1 <= maxLen /\ (j + ([] : List Value).length + 1) * 24 <= 140737488355328) := hid (by unfold maxLen; simp only [List.length_nil,List.length_cons]; omega)
      have k8 : IntKind.i64.wrap ((j : Int) + 1) = (j : Int) + 1 := by rw [IntKind.wrap_i64]; omega
      simp only [World.size_alloc] at hcc
      have HCX := hid (Chg.refl (Value.slice oa (j + ([] : List Value).length) oc).ownBlock.toList wr)
      clear ht hlt hcw hca hj hjl
      go_wp2_with (at_builtin; refine wpList_append_own_at _ rfl (.tmp 54) (.tmp 57) 40 rfl w4.heap.size 23 i0 (.slice none 0 0) 1 24 Tryz.underlying40 HI0.out.1 HI0.out.2.1 HI0.out.2.2.1 HI0.out.2.2.2 rfl (by decide) (.slice oa (j + ([] : List Value).length) oc) (j + ([] : List Value).length) _ rfl HOA ⟨wr.heap.size + 1,0,none⟩ 1 1 _ rfl rfl hcc (by simp [Value.oneCell']) HBB.out.1 HBB.out.2 hb3 ?_; intro v' wG hown' hgrow hnil hblk; obtain ⟨oa2,oc2,rfl⟩ := own_open hown'; have HKA := hid ((((HCX.out.alloc (.cells #[.int .i64 top, .slice ta tw.length tc] 43)).alloc (.cells #[.slice ta tw.length tc] 23))).grown hgrow (fun k hk => .inl (Option.mem_toList.2 hk))); have HON := hid hown'; clear hown' hgrow hnil hblk)
      have hltj := HLT.out
      have htk : ([] : List Value) ++ (p0l.take (j + 1)).map Td.val = (([] : List Value) ++ (p0l.take j).map Td.val) ++ [.slice ta tw.length tc] := by
       rw [List.take_add_one,HT.out,List.append_assoc,List.map_append]
       rfl
      go_roundw
      case rel =>
       refine ⟨j + 1,oa2,oc2,hltj, ?_,by go_num,hid ?_,hid (HJ.out.into HKA.out (fun y hy => .inr (World.ownsRow.lt HO.out y (Option.mem_toList.1 hy)).1))⟩
       · simp [Nat.add_assoc,Nat.add_comm]
       · rw [htk]
         have h1 := HON.out
         rw [show j + 1 + ([] : List Value).length = j + ([] : List Value).length + 1 by omega]
         exact h1
      case measure => simp [intOf]; omega
    · obtain rfl : p0l.length = j := by omega
      clear hlt hj
      obtain ⟨wQ,rfl⟩ : ∃ z,z = wr := ⟨_,rfl⟩
      have hcw : Chg [] W wQ := HZ0.out.trans (HC4.out.trans HJ.out)
      have hlen : (([] : List (List Int)) ++ p0l.map Td.wds).length = p0l.length + ([] : List Value).length := by simp [Nat.add_comm]
      have hrs := HALL.out.1 wQ hcw (.slice oa (p0l.length + ([] : List Value).length) oc) (by rw [hlen]; have h1 := HO.out; rw [List.take_length] at h1; exact Reads.of_own h1 (by decide))
      have hrl : (([] : List (List Int)) ++ p0l.map Td.wds).length <= 1000 := by rw [hlen]; have h1 : p0l.length <= 20 := HP0.out.2.2.1.1; simp only [List.length_nil,List.length_cons]; omega
      have HRS := hid (⟨hrs,hrl,hlen⟩ : _ /\ _ /\ _)
      obtain ⟨b3,o3,hx3,hc3, -⟩ := reads_index (P := Tryz.prog) Tryz.underlying40 szWords hrs.row
      have HX3 := hid hx3
      have HC3 := hid hc3
      have hcr := HCR.out.1
      obtain ⟨b4,o4,hx4,hc4, -⟩ := reads_index (P := Tryz.prog) Tryz.underlying34 szCall hcr.rd
      rw [HN1.out] at hx4
      have HX4 := hid hx4
      have HC4' := hid hc4
      have hn1 : n1 <= 100000 := by
       obtain ⟨ds,q1,q2,q3⟩ := HCR.out.2.run
       have q4 := q3.last.1.cs
       have q5 := (turnsM_now K mv (frO o) (ts ++ ds) (lo0 ws ps)).2
       have q6 : (lo0 ws ps).now = 0 := rfl
       have q7 : (ts ++ ds).length = ts.length + ds.length := List.length_append
       rw [<- q2] at q4 q5
       have q8 := HN1.out
       have q9 := HTS.out
       omega
      have HN1' := hid hn1
      have HCW := hid hcw
      clear hcw hlen hrs hrl hx3 hc3 hcr hx4 hc4 HO hn1
      go_wp2_with fail
      go_loopw [62] (fun i wr => ∃ j : Nat,j <= n1 /\ i = .int .i64 (j : Int) /\ Hid (Chg [] wQ wr)) (fun i _ => n1 - (intOf i).toNat)
      case atStart => exact ⟨0,Nat.zero_le _,rfl,hid (Chg.refl _ _)⟩
      case round =>
       obtain ⟨j,hj,rfl,HI⟩ := hrel
       by_cases hlt : j < n1
       · have HLT := hid hlt
         obtain ⟨⟨cp,co,cop,wds,ccd,cbg,cen⟩,hcj⟩ : ∃ c,L.cs[j]? = some c := ⟨_,List.getElem?_eq_getElem (by rw [HN1.out]; exact hlt)⟩
         obtain ⟨r,hrj⟩ : ∃ r,rvs[j]? = some r := ⟨_,List.getElem?_eq_getElem (by rw [HCR.out.1.len,HN1.out]; exact hlt)⟩
         have hrr := (HCR.out.1.recs j _ r hcj hrj).chg (HJ.out.trans HI.out)
         have hcv := cvs_get hcj hrj
         have ix := HX4.out j hlt
         have hgc : Chg [] w4 wr := HJ.out.trans HI.out
         have hg : ∀ f v,f < 7 -> (Cl.cv ⟨cp,co,cop,wds,ccd,cbg,cen⟩ r).cells[f]? = some v -> wr.cell? ⟨b4,o4 + (j * 7 + f),none⟩ = some v := fun f v hf hv => hgc.keep (HC4'.out _ _ (by rw [flatMap_get CV.cells 7 (fun _ => rfl) _ j f hf _ hcv]; exact hv)) (by simp)
         have g0 := hg 0 _ (by decide) rfl
         have g1 := hg 1 _ (by decide) rfl
         have g2 := hg 2 _ (by decide) rfl
         have g3 := hg 3 _ (by decide) rfl
         have g4 := hg 4 _ (by decide) rfl
         have g5 := hg 5 _ (by decide) rfl
         have g6 := hg 6 _ (by decide) rfl
         simp only [Nat.add_zero, ← Nat.add_assoc,Cl.cv] at g0 g1 g2 g3 g4 g5 g6
         simp only at hrr
         obtain ⟨ra0,rc0,rfl,_⟩ := reads_slice hrr.1
         have hmem := List.mem_of_getElem? hcj
         have HW := hid (fun h0 hc0 => HALL.out.2.1 mv L HCR.out.2 _ hmem h0 hc0)
         simp only at HW
         have HRR := hid hrr
         obtain ⟨wA,hwA⟩ : ∃ z,wr.alloc (.cells #[.int .i64 cp, .int .i64 co, .int .i64 cop, .slice ra0 wds.length rc0, .int .i64 ccd, .int .i64 cbg, .int .i64 cen] 45) = z := ⟨_,rfl⟩
         have hca : Chg [] wr wA := by rw [<- hwA]; exact (Chg.refl _ wr).alloc _
         have hba : Blk wA wr.heap.size #[.int .i64 cp, .int .i64 co, .int .i64 cop, .slice ra0 wds.length rc0, .int .i64 ccd, .int .i64 cbg, .int .i64 cen] 45 := by rw [<- hwA]; exact Blk.new wr _ _
         have HBA := hid hba
         have HCA2 := hid hca
         have hjn : (j : Int) < 100001 := by have := HN1'.out; omega
         have k8 : IntKind.i64.wrap ((j : Int) + 1) = (j : Int) + 1 := by rw [IntKind.wrap_i64]; omega
         have z0 := hba.cell (o := 0) rfl
         have z3 := hba.cell (o := 3) rfl
         have z4 := hba.cell (o := 4) rfl
         clear hcj hrj hrr hcv hg hgc hmem hba hca hjn
         by_cases hcp : cp = 0
         · have hcp' : (cp == 0) = true := by simpa using hcp
           clear hcp
           go_wp2_with fail
           have hltj := HLT.out
           go_roundw
           case rel => exact ⟨j + 1,by omega,by go_num,hid (HI.out.trans (by first | exact HCA2.out | exact (Chg.refl _ _).alloc _))⟩
           case measure => simp [intOf]; omega
         have hcp' : (cp == 0) = false := by simpa using hcp
         by_cases hcd : ccd = 0
         rotate_left
         · have hcd' : (ccd != 0) = true := by simpa using hcd
           clear hcp hcd
           go_wp2_with fail
           have hltj := HLT.out
           go_roundw
           case rel => exact ⟨j + 1,by omega,by go_num,hid (HI.out.trans (by first | exact HCA2.out | exact (Chg.refl _ _).alloc _))⟩
           case measure => simp [intOf]; omega
         have hcd' : (ccd != 0) = false := by simpa using hcd
         have hin := HW.out hcp hcd
         have hshort := HRS.out.1.short wds hin
         have HIN := hid (⟨hin,hshort⟩ : _ /\ _)
         have HFD := hid (Find_any (.slice oa (p0l.length + ([] : List Value).length) oc) _ _ (.slice ra0 wds.length rc0) wds wA (HRS.out.1.chg (HI.out.trans HCA2.out)) HRS.out.2.1 (HRR.out.chg HCA2.out) hshort hin)
         clear hcp hcd hin hshort hlt
         go_wp2_with (go_at_call 12; (try rw [hwA]); refine HFD.out.mono ?_; rintro e wB ⟨⟨kf,rfl,hkf⟩,hc⟩; have HKF := hid hkf; have HCB : Hid (Chg [] wA wB) := hid hc; clear hkf hc)
         have hkf := HKF.out
         have hkl := (List.getElem?_eq_some_iff.1 hkf).1
         obtain ⟨uv,huv⟩ : ∃ u,(([] : List Value) ++ p0l.map Td.val)[kf]? = some u := ⟨_,List.getElem?_eq_getElem (by rw [HRS.out.1.len]; exact hkl)⟩
         have hur := HRS.out.1.each kf wds uv hkf huv
         obtain ⟨ua,uc,rfl,_⟩ := reads_slice hur.1
         have ix96 := HX3.out kf hkl
         rw [HRS.out.2.2] at hkl
         simp only [List.length_nil,List.length_cons,Nat.add_zero,Nat.zero_add,Nat.mul_one] at ix96 hkl
         have HUR := hid hur
         have hcu : wQ.cell? ⟨b3,o3 + kf,none⟩ = some (.slice ua wds.length uc) := HC3.out kf _ huv
         have hchB : Chg [] wQ wB := HI.out.trans (HCA2.out.trans HCB.out)
         have hbB := HBA.out.keep HCB.out (by simp)
         have FC := hid (fun (u : World) (hu : Chg [] wB u) => (⟨(hchB.trans hu).keep hcu (by simp),(hbB.keep hu (by simp)).cell (o := 3) rfl⟩ : u.cell? ⟨b3,o3 + kf,none⟩ = some (.slice ua wds.length uc) /\ u.cell? ⟨wr.heap.size,3,none⟩ = some (.slice ra0 wds.length rc0)))
         have HWD := hid (fun (u : World) (hu : Chg [] wB u) => Words_any (.slice ua wds.length uc) (.slice ra0 wds.length rc0) wds wds u (hur.chg (hchB.trans hu)) (HRR.out.chg (HCA2.out.trans (HCB.out.trans hu))) (by have := HIN.out.2; omega) (by have := HIN.out.2; omega))
         rw [show wordsB wds wds = true from decide_eq_true rfl] at HWD
         have HMX := hid (fun (u : World) (hu : Chg [] wB u) => Mixed_no (.slice oa (p0l.length + ([] : List Value).length) oc) _ _ (.slice ra0 wds.length rc0) wds u (HRS.out.1.chg (hchB.trans hu)) HRS.out.2.1 (HRR.out.chg (HCA2.out.trans (HCB.out.trans hu))) HIN.out.2 HIN.out.1)
         have HCHB := hid hchB
         have n1' : ¬ ((kf : Int) < 0) := by omega
         have n2' : ¬ (p0l.length <= kf) := by omega
         have n3' : ¬ ((p0l.length : Int) <= (kf : Int)) := by omega
         clear hkf huv hur hcu hchB hbB g0 g1 g2 g3 g4 g5 g6 z0 z3 z4 hcp' hcd' hwA
         have hHeld : (fun V' : World => Hid (Chg [] wB V')) (World.drew wB) := hid (Chg.refl [] wB).drew
         refine wp_region_plan (fun V' : World => Hid (Chg [] wB V')) [(0,true,some 81),(1,true,some 82),(2,true,some 83),(3,true,some 84),(4,true,some 85),(5,true,some 86),(6,true,some 87),(7,true,some 88),(8,true,some 89),(9,true,some 90),(10,true,some 91),(11,true,some 92),(12,true,some 93),(13,true,some 94),(14,true,some 95),(15,true,some 96),(16,true,some 97),(17,true,some 98),(18,true,some 99),(19,false,some 100),(20,true,some 101),(21,true,some 102),(22,true,some 103),(23,true,some 104),(24,true,some 105),(25,true,some 106),(26,false,some 107),(27,true,some 108)] (by kernel_rfl) (by kernel_rfl) (by kernel_rfl) (by kernel_rfl) (fun d c a v w h => by cases d <;> exact h) hHeld ?_
         repeat (first
          | (refine planWp_read (v := ?_) rfl rfl ?_ ?_ ?_; rotate_left; (focus rfl); (focus (intro u hSw; (try dsimp only at hSw); obtain ⟨e97,e99⟩ := FC.out u hSw.out; go_simp; (try with_reducible rfl))); (try simp only [Act.put,sA,sB,sC])))
         refine planWp_do rfl rfl ?_ (fun K hK => ?_)
         focus rfl
         go_simp
         go_wp2_with (go_at_call 13; refine (HWD.out _ ((Chg.refl [] wB).drew)).mono ?_; rintro e wC ⟨rfl,hq⟩; have HCC : Hid (Chg [] wB wC) := hid (((Chg.refl [] wB).drew).trans (quiet_chg hq)); clear hq)
         refine hK.out _ _ ?_ (fun hHeld2 => ?_)
         focus exact HCC
         clear hK K hHeld2 hHeld
         try simp only [Act.put,sA,sB,sC]
         repeat (first
          | (refine planWp_read (v := ?_) rfl rfl ?_ ?_ ?_; rotate_left; (focus rfl); (focus (intro u hSw; (try dsimp only at hSw); obtain ⟨e97,e99⟩ := FC.out u hSw.out; go_simp; (try with_reducible rfl))); (try simp only [Act.put,sA,sB,sC])))
         refine planWp_do rfl rfl ?_ (fun K hK => ?_)
         focus rfl
         go_simp
         go_wp2_with (go_at_call 14; refine (HMX.out _ HCC.out).mono ?_; rintro e wD ⟨rfl,hc⟩; have HCD2 : Hid (Chg [] wB wD) := hid (HCC.out.trans hc); clear hc)
         refine hK.out _ _ ?_ (fun hHeld2 => ?_)
         focus exact HCD2
         clear hK K hHeld2
         try simp only [Act.put,sA,sB,sC]
         repeat (first
          | (refine planWp_read (v := ?_) rfl rfl ?_ ?_ ?_; rotate_left; (focus rfl); (focus (intro u hSw; go_simp; (try with_reducible rfl))); (try simp only [Act.put,sA,sB,sC])))
         refine planWp_nil ?_
         go_wp2_with fail
         have hltj := HLT.out
         simp only [List.length_nil,List.length_cons,Nat.add_zero,Nat.zero_add]
         go_roundw
         case rel => exact ⟨j + 1,by omega,by go_num,hid (HCHB.out.trans HCD2.out)⟩
         case measure => simp [intOf]; omega
       · obtain rfl : n1 = j := by omega
         clear hlt hj
         go_wp2_with (go_at_call 7; refine (HWV.out _ (HC4.out.trans (HJ.out.trans HI.out))).mono ?_; rintro e w8 ⟨rfl,hc⟩; have HC8 := hid hc; clear hc)
         go_ret
         exact ⟨rfl,HCW.out.trans (HI.out.trans HC8.out)⟩
 · have h6' : (o.k != 6) = true := by simpa using h6
   obtain ⟨rfl,rfl⟩ : rs0 = [ini] /\ vs0 = [.slice o.ia o.il o.ic] := by
    obtain ⟨-, -, -,e1,e2⟩ := HALL.out
    rw [if_pos h6] at e1 e2
    exact ⟨e1.symm,e2.symm⟩
   clear h6
   have hcA : Chg [] wE (wE.alloc (.cells #[.slice o.ia o.il o.ic] 23)) := (Chg.refl _ _).alloc _
   have HOA0 := mem.own_chg HRE.out hcA (by simp)
   have hcc := one_cells wE (.slice o.ia o.il o.ic) 23
   have hb3 : w4.heap.size <= (wE.alloc (.cells #[.slice o.ia o.il o.ic] 23)).heap.size := by have := HSE.out; have := hcA.size; omega
   clear hcA
   go_upto_region 7 with (at_builtin; refine wpList_append_own_at _ rfl (.tmp 39) (.tmp 43) 40 rfl w4.heap.size 23 i0 (.slice none 0 0) 1 24 Tryz.underlying40 HI0.out.1 HI0.out.2.1 HI0.out.2.2.1 HI0.out.2.2.2 rfl (by decide) (.slice (some ⟨w4.heap.size,0,none⟩) 0 0) 0 _ rfl HOA0 ⟨wE.heap.size,0,none⟩ 1 1 _ rfl rfl hcc (by simp [Value.oneCell']) (by decide) (by decide) hb3 ?_; intro v' wF hown' hgrow hnil hblk; obtain ⟨oa0,oc0,rfl⟩ := own_open hown'; have HKA := hid (((Chg.refl (Value.slice (some ⟨w4.heap.size,0,none⟩) 0 0).ownBlock.toList wE).alloc (.cells #[.slice o.ia o.il o.ic] 23)).grown hgrow (fun k hk => .inl (Option.mem_toList.2 hk))); have HON := hid hown'; clear hown' hgrow hnil hblk)
   have HROW : Hid (wF.ownsRow w4.heap.size 23 1 (.slice oa0 ([.slice o.ia o.il o.ic] : List Value).length oc0) ([.slice o.ia o.il o.ic] : List Value).length [.slice o.ia o.il o.ic]) := HON
   have HCA : Hid (Chg [] w4 wF) := hid (HCE.out.into HKA.out (fun y hy => .inr (by have := List.mem_singleton.1 (by simpa [Value.ownBlock] using hy); omega)))
   clear d0 d1 d2 d3 d4 d5 d6 d7 d8 d9 h6' HOA0 hcc hb3
   obtain ⟨d0,d1,d2,d3,d4,d5,d6,d7,d8,d9⟩ := FA.out wF (HC4.out.trans HCA.out)
   have hq0 := HQ0.out
   have hq1 := (HZ0.out.trans (HC4.out.trans HCA.out)).keep hq0 (by simp)
   clear hq0
   go_wp2_with fail
   clear d0 d1 d2 d3 d4 d5 d6 d7 d8 d9 hq1 ix0'
   go_loopw [5,50] (fun av i wr => ∃ (j : Nat) (oa : Option Addr) (oc : Nat),j <= p0l.length /\ av = .slice oa (j + ([.slice o.ia o.il o.ic] : List Value).length) oc /\ i = .int .i64 (j : Int) /\ Hid (wr.ownsRow w4.heap.size 23 1 (.slice oa (j + ([.slice o.ia o.il o.ic] : List Value).length) oc) (j + ([.slice o.ia o.il o.ic] : List Value).length) (([.slice o.ia o.il o.ic] : List Value) ++ (p0l.take j).map Td.val)) /\ Hid (Chg [] w4 wr)) (fun _ i _ => p0l.length - (intOf i).toNat)
   case atStart => exact ⟨0,oa0,oc0,Nat.zero_le _,rfl,rfl,hid (by rw [List.take_zero,List.map_nil,List.append_nil]; exact HROW.out),HCA⟩
   case round =>
    clear HROW HCA
    obtain ⟨j,oa,oc,hj,rfl,rfl,HO,HJ⟩ := hrel
    by_cases hlt : j < p0l.length
    · have HLT := hid hlt
      have g1 := HX2.out j hlt
      obtain ⟨⟨top,ta,tc,tw⟩,ht⟩ : ∃ t,p0l[j]? = some t := ⟨_,List.getElem?_eq_getElem hlt⟩
      have HT := hid ht
      have hcw : Chg [] W wr := HZ0.out.trans (HC4.out.trans HJ.out)
      have r0 := hcw.keep (HC2'.out (j * 2 + 0) _ (by rw [flatMap_get Td.cells 2 (fun _ => rfl) p0l j 0 (by decide) _ ht]; rfl)) (by simp)
      have r1 := hcw.keep (HC2'.out (j * 2 + 1) _ (by rw [flatMap_get Td.cells 2 (fun _ => rfl) p0l j 1 (by decide) _ ht]; rfl)) (by simp)
      rw [Nat.add_zero] at r0
      rw [<- Nat.add_assoc] at r1
      simp only at r0 r1
      have hcc := one_cells (wr.alloc (.cells #[.int .i64 top, .slice ta tw.length tc] 43)) (.slice ta tw.length tc) 23
      have hca : Chg [] wr ((wr.alloc (.cells #[.int .i64 top, .slice ta tw.length tc] 43)).alloc (.cells #[.slice ta tw.length tc] 23)) := ((Chg.refl _ _).alloc _).alloc _
      have HOA := mem.own_chg HO.out hca (by simp)
      have hb3 : w4.heap.size <= ((wr.alloc (.cells #[.int .i64 top, .slice ta tw.length tc] 43)).alloc (.cells #[.slice ta tw.length tc] 23)).heap.size := by have h1 := HJ.out.size; have h2 := hca.size; omega
      have hjl : j < 20 := by have h1 : p0l.length <= 20 := HP0.out.2.2.1.1; omega
      have HBB : Hid (j + ([.slice o.ia o.il o.ic] : List Value).length + 1 <= maxLen /\ (j + ([.slice o.ia o.il o.ic] : List Value).length + 1) * 24 <= 140737488355328) := hid (by unfold maxLen; simp only [List.length_nil,List.length_cons]; omega)
      have k8 : IntKind.i64.wrap ((j : Int) + 1) = (j : Int) + 1 := by rw [IntKind.wrap_i64]; omega
      simp only [World.size_alloc] at hcc
      have HCX := hid (Chg.refl (Value.slice oa (j + ([.slice o.ia o.il o.ic] : List Value).length) oc).ownBlock.toList wr)
      clear ht hlt hcw hca hj hjl
      go_wp2_with (at_builtin; refine wpList_append_own_at _ rfl (.tmp 54) (.tmp 57) 40 rfl w4.heap.size 23 i0 (.slice none 0 0) 1 24 Tryz.underlying40 HI0.out.1 HI0.out.2.1 HI0.out.2.2.1 HI0.out.2.2.2 rfl (by decide) (.slice oa (j + ([.slice o.ia o.il o.ic] : List Value).length) oc) (j + ([.slice o.ia o.il o.ic] : List Value).length) _ rfl HOA ⟨wr.heap.size + 1,0,none⟩ 1 1 _ rfl rfl hcc (by simp [Value.oneCell']) HBB.out.1 HBB.out.2 hb3 ?_; intro v' wG hown' hgrow hnil hblk; obtain ⟨oa2,oc2,rfl⟩ := own_open hown'; have HKA := hid ((((HCX.out.alloc (.cells #[.int .i64 top, .slice ta tw.length tc] 43)).alloc (.cells #[.slice ta tw.length tc] 23))).grown hgrow (fun k hk => .inl (Option.mem_toList.2 hk))); have HON := hid hown'; clear hown' hgrow hnil hblk)
      have hltj := HLT.out
      have htk : ([.slice o.ia o.il o.ic] : List Value) ++ (p0l.take (j + 1)).map Td.val = (([.slice o.ia o.il o.ic] : List Value) ++ (p0l.take j).map Td.val) ++ [.slice ta tw.length tc] := by
       rw [List.take_add_one,HT.out,List.append_assoc,List.map_append]
       rfl
      go_roundw
      case rel =>
       refine ⟨j + 1,oa2,oc2,hltj, ?_,by go_num,hid ?_,hid (HJ.out.into HKA.out (fun y hy => .inr (World.ownsRow.lt HO.out y (Option.mem_toList.1 hy)).1))⟩
       · simp [Nat.add_assoc,Nat.add_comm]
       · rw [htk]
         have h1 := HON.out
         rw [show j + 1 + ([.slice o.ia o.il o.ic] : List Value).length = j + ([.slice o.ia o.il o.ic] : List Value).length + 1 by omega]
         exact h1
      case measure => simp [intOf]; omega
    · obtain rfl : p0l.length = j := by omega
      clear hlt hj
      obtain ⟨wQ,rfl⟩ : ∃ z,z = wr := ⟨_,rfl⟩
      have hcw : Chg [] W wQ := HZ0.out.trans (HC4.out.trans HJ.out)
      have hlen : ([ini] ++ p0l.map Td.wds).length = p0l.length + ([.slice o.ia o.il o.ic] : List Value).length := by simp [Nat.add_comm]
      have hrs := HALL.out.1 wQ hcw (.slice oa (p0l.length + ([.slice o.ia o.il o.ic] : List Value).length) oc) (by rw [hlen]; have h1 := HO.out; rw [List.take_length] at h1; exact Reads.of_own h1 (by decide))
      have hrl : ([ini] ++ p0l.map Td.wds).length <= 1000 := by rw [hlen]; have h1 : p0l.length <= 20 := HP0.out.2.2.1.1; simp only [List.length_nil,List.length_cons]; omega
      have HRS := hid (⟨hrs,hrl,hlen⟩ : _ /\ _ /\ _)
      obtain ⟨b3,o3,hx3,hc3, -⟩ := reads_index (P := Tryz.prog) Tryz.underlying40 szWords hrs.row
      have HX3 := hid hx3
      have HC3 := hid hc3
      have hcr := HCR.out.1
      obtain ⟨b4,o4,hx4,hc4, -⟩ := reads_index (P := Tryz.prog) Tryz.underlying34 szCall hcr.rd
      rw [HN1.out] at hx4
      have HX4 := hid hx4
      have HC4' := hid hc4
      have hn1 : n1 <= 100000 := by
       obtain ⟨ds,q1,q2,q3⟩ := HCR.out.2.run
       have q4 := q3.last.1.cs
       have q5 := (turnsM_now K mv (frO o) (ts ++ ds) (lo0 ws ps)).2
       have q6 : (lo0 ws ps).now = 0 := rfl
       have q7 : (ts ++ ds).length = ts.length + ds.length := List.length_append
       rw [<- q2] at q4 q5
       have q8 := HN1.out
       have q9 := HTS.out
       omega
      have HN1' := hid hn1
      have HCW := hid hcw
      clear hcw hlen hrs hrl hx3 hc3 hcr hx4 hc4 HO hn1
      go_wp2_with fail
      go_loopw [62] (fun i wr => ∃ j : Nat,j <= n1 /\ i = .int .i64 (j : Int) /\ Hid (Chg [] wQ wr)) (fun i _ => n1 - (intOf i).toNat)
      case atStart => exact ⟨0,Nat.zero_le _,rfl,hid (Chg.refl _ _)⟩
      case round =>
       obtain ⟨j,hj,rfl,HI⟩ := hrel
       by_cases hlt : j < n1
       · have HLT := hid hlt
         obtain ⟨⟨cp,co,cop,wds,ccd,cbg,cen⟩,hcj⟩ : ∃ c,L.cs[j]? = some c := ⟨_,List.getElem?_eq_getElem (by rw [HN1.out]; exact hlt)⟩
         obtain ⟨r,hrj⟩ : ∃ r,rvs[j]? = some r := ⟨_,List.getElem?_eq_getElem (by rw [HCR.out.1.len,HN1.out]; exact hlt)⟩
         have hrr := (HCR.out.1.recs j _ r hcj hrj).chg (HJ.out.trans HI.out)
         have hcv := cvs_get hcj hrj
         have ix := HX4.out j hlt
         have hgc : Chg [] w4 wr := HJ.out.trans HI.out
         have hg : ∀ f v,f < 7 -> (Cl.cv ⟨cp,co,cop,wds,ccd,cbg,cen⟩ r).cells[f]? = some v -> wr.cell? ⟨b4,o4 + (j * 7 + f),none⟩ = some v := fun f v hf hv => hgc.keep (HC4'.out _ _ (by rw [flatMap_get CV.cells 7 (fun _ => rfl) _ j f hf _ hcv]; exact hv)) (by simp)
         have g0 := hg 0 _ (by decide) rfl
         have g1 := hg 1 _ (by decide) rfl
         have g2 := hg 2 _ (by decide) rfl
         have g3 := hg 3 _ (by decide) rfl
         have g4 := hg 4 _ (by decide) rfl
         have g5 := hg 5 _ (by decide) rfl
         have g6 := hg 6 _ (by decide) rfl
         simp only [Nat.add_zero, ← Nat.add_assoc,Cl.cv] at g0 g1 g2 g3 g4 g5 g6
         simp only at hrr
         obtain ⟨ra0,rc0,rfl,_⟩ := reads_slice hrr.1
         have hmem := List.mem_of_getElem? hcj
         have HW := hid (fun h0 hc0 => HALL.out.2.1 mv L HCR.out.2 _ hmem h0 hc0)
         simp only at HW
         have HRR := hid hrr
         obtain ⟨wA,hwA⟩ : ∃ z,wr.alloc (.cells #[.int .i64 cp, .int .i64 co, .int .i64 cop, .slice ra0 wds.length rc0, .int .i64 ccd, .int .i64 cbg, .int .i64 cen] 45) = z := ⟨_,rfl⟩
         have hca : Chg [] wr wA := by rw [<- hwA]; exact (Chg.refl _ wr).alloc _
         have hba : Blk wA wr.heap.size #[.int .i64 cp, .int .i64 co, .int .i64 cop, .slice ra0 wds.length rc0, .int .i64 ccd, .int .i64 cbg, .int .i64 cen] 45 := by rw [<- hwA]; exact Blk.new wr _ _
         have HBA := hid hba
         have HCA2 := hid hca
         have hjn : (j : Int) < 100001 := by have := HN1'.out; omega
         have k8 : IntKind.i64.wrap ((j : Int) + 1) = (j : Int) + 1 := by rw [IntKind.wrap_i64]; omega
         have z0 := hba.cell (o := 0) rfl
         have z3 := hba.cell (o := 3) rfl
         have z4 := hba.cell (o := 4) rfl
         clear hcj hrj hrr hcv hg hgc hmem hba hca hjn
         by_cases hcp : cp = 0
         · have hcp' : (cp == 0) = true := by simpa using hcp
           clear hcp
           go_wp2_with fail
           have hltj := HLT.out
           go_roundw
           case rel => exact ⟨j + 1,by omega,by go_num,hid (HI.out.trans (by first | exact HCA2.out | exact (Chg.refl _ _).alloc _))⟩
           case measure => simp [intOf]; omega
         have hcp' : (cp == 0) = false := by simpa using hcp
         by_cases hcd : ccd = 0
         rotate_left
         · have hcd' : (ccd != 0) = true := by simpa using hcd
           clear hcp hcd
           go_wp2_with fail
           have hltj := HLT.out
           go_roundw
           case rel => exact ⟨j + 1,by omega,by go_num,hid (HI.out.trans (by first | exact HCA2.out | exact (Chg.refl _ _).alloc _))⟩
           case measure => simp [intOf]; omega
         have hcd' : (ccd != 0) = false := by simpa using hcd
         have hin := HW.out hcp hcd
         have hshort := HRS.out.1.short wds hin
         have HIN := hid (⟨hin,hshort⟩ : _ /\ _)
         have HFD := hid (Find_any (.slice oa (p0l.length + ([.slice o.ia o.il o.ic] : List Value).length) oc) _ _ (.slice ra0 wds.length rc0) wds wA (HRS.out.1.chg (HI.out.trans HCA2.out)) HRS.out.2.1 (HRR.out.chg HCA2.out) hshort hin)
         clear hcp hcd hin hshort hlt
         go_wp2_with (go_at_call 12; (try rw [hwA]); refine HFD.out.mono ?_; rintro e wB ⟨⟨kf,rfl,hkf⟩,hc⟩; have HKF := hid hkf; have HCB : Hid (Chg [] wA wB) := hid hc; clear hkf hc)
         have hkf := HKF.out
         have hkl := (List.getElem?_eq_some_iff.1 hkf).1
         obtain ⟨uv,huv⟩ : ∃ u,(([.slice o.ia o.il o.ic] : List Value) ++ p0l.map Td.val)[kf]? = some u := ⟨_,List.getElem?_eq_getElem (by rw [HRS.out.1.len]; exact hkl)⟩
         have hur := HRS.out.1.each kf wds uv hkf huv
         obtain ⟨ua,uc,rfl,_⟩ := reads_slice hur.1
         have ix96 := HX3.out kf hkl
         rw [HRS.out.2.2] at hkl
         simp only [List.length_nil,List.length_cons,Nat.add_zero,Nat.zero_add,Nat.mul_one] at ix96 hkl
         have HUR := hid hur
         have hcu : wQ.cell? ⟨b3,o3 + kf,none⟩ = some (.slice ua wds.length uc) := HC3.out kf _ huv
         have hchB : Chg [] wQ wB := HI.out.trans (HCA2.out.trans HCB.out)
         have hbB := HBA.out.keep HCB.out (by simp)
         have FC := hid (fun (u : World) (hu : Chg [] wB u) => (⟨(hchB.trans hu).keep hcu (by simp),(hbB.keep hu (by simp)).cell (o := 3) rfl⟩ : u.cell? ⟨b3,o3 + kf,none⟩ = some (.slice ua wds.length uc) /\ u.cell? ⟨wr.heap.size,3,none⟩ = some (.slice ra0 wds.length rc0)))
         have HWD := hid (fun (u : World) (hu : Chg [] wB u) => Words_any (.slice ua wds.length uc) (.slice ra0 wds.length rc0) wds wds u (hur.chg (hchB.trans hu)) (HRR.out.chg (HCA2.out.trans (HCB.out.trans hu))) (by have := HIN.out.2; omega) (by have := HIN.out.2; omega))
         rw [show wordsB wds wds = true from decide_eq_true rfl] at HWD
         have HMX := hid (fun (u : World) (hu : Chg [] wB u) => Mixed_no (.slice oa (p0l.length + ([.slice o.ia o.il o.ic] : List Value).length) oc) _ _ (.slice ra0 wds.length rc0) wds u (HRS.out.1.chg (hchB.trans hu)) HRS.out.2.1 (HRR.out.chg (HCA2.out.trans (HCB.out.trans hu))) HIN.out.2 HIN.out.1)
         have HCHB := hid hchB
         have n1' : ¬ ((kf : Int) < 0) := by omega
         have n2' : ¬ (p0l.length + 1 <= kf) := by omega
         have n3' : ¬ ((p0l.length : Int) + 1 <= (kf : Int)) := by omega
         clear hkf huv hur hcu hchB hbB g0 g1 g2 g3 g4 g5 g6 z0 z3 z4 hcp' hcd' hwA
         have hHeld : (fun V' : World => Hid (Chg [] wB V')) (World.drew wB) := hid (Chg.refl [] wB).drew
         refine wp_region_plan (fun V' : World => Hid (Chg [] wB V')) [(0,true,some 81),(1,true,some 82),(2,true,some 83),(3,true,some 84),(4,true,some 85),(5,true,some 86),(6,true,some 87),(7,true,some 88),(8,true,some 89),(9,true,some 90),(10,true,some 91),(11,true,some 92),(12,true,some 93),(13,true,some 94),(14,true,some 95),(15,true,some 96),(16,true,some 97),(17,true,some 98),(18,true,some 99),(19,false,some 100),(20,true,some 101),(21,true,some 102),(22,true,some 103),(23,true,some 104),(24,true,some 105),(25,true,some 106),(26,false,some 107),(27,true,some 108)] (by kernel_rfl) (by kernel_rfl) (by kernel_rfl) (by kernel_rfl) (fun d c a v w h => by cases d <;> exact h) hHeld ?_
         repeat (first
          | (refine planWp_read (v := ?_) rfl rfl ?_ ?_ ?_; rotate_left; (focus rfl); (focus (intro u hSw; (try dsimp only at hSw); obtain ⟨e97,e99⟩ := FC.out u hSw.out; go_simp; (try with_reducible rfl))); (try simp only [Act.put,sA,sB,sC])))
         refine planWp_do rfl rfl ?_ (fun K hK => ?_)
         focus rfl
         go_simp
         go_wp2_with (go_at_call 13; refine (HWD.out _ ((Chg.refl [] wB).drew)).mono ?_; rintro e wC ⟨rfl,hq⟩; have HCC : Hid (Chg [] wB wC) := hid (((Chg.refl [] wB).drew).trans (quiet_chg hq)); clear hq)
         refine hK.out _ _ ?_ (fun hHeld2 => ?_)
         focus exact HCC
         clear hK K hHeld2 hHeld
         try simp only [Act.put,sA,sB,sC]
         repeat (first
          | (refine planWp_read (v := ?_) rfl rfl ?_ ?_ ?_; rotate_left; (focus rfl); (focus (intro u hSw; (try dsimp only at hSw); obtain ⟨e97,e99⟩ := FC.out u hSw.out; go_simp; (try with_reducible rfl))); (try simp only [Act.put,sA,sB,sC])))
         refine planWp_do rfl rfl ?_ (fun K hK => ?_)
         focus rfl
         go_simp
         go_wp2_with (go_at_call 14; refine (HMX.out _ HCC.out).mono ?_; rintro e wD ⟨rfl,hc⟩; have HCD2 : Hid (Chg [] wB wD) := hid (HCC.out.trans hc); clear hc)
         refine hK.out _ _ ?_ (fun hHeld2 => ?_)
         focus exact HCD2
         clear hK K hHeld2
         try simp only [Act.put,sA,sB,sC]
         repeat (first
          | (refine planWp_read (v := ?_) rfl rfl ?_ ?_ ?_; rotate_left; (focus rfl); (focus (intro u hSw; go_simp; (try with_reducible rfl))); (try simp only [Act.put,sA,sB,sC])))
         refine planWp_nil ?_
         go_wp2_with fail
         have hltj := HLT.out
         simp only [List.length_nil,List.length_cons,Nat.add_zero,Nat.zero_add]
         go_roundw
         case rel => exact ⟨j + 1,by omega,by go_num,hid (HCHB.out.trans HCD2.out)⟩
         case measure => simp [intOf]; omega
       · obtain rfl : n1 = j := by omega
         clear hlt hj
         go_wp2_with (go_at_call 7; refine (HWV.out _ (HC4.out.trans (HJ.out.trans HI.out))).mono ?_; rintro e w8 ⟨rfl,hc⟩; have HC8 := hid hc; clear hc)
         go_ret
         exact ⟨rfl,HCW.out.trans (HI.out.trans HC8.out)⟩
end Go.Proofs.YtphfnjcboellhaaGreatDoor.wv
