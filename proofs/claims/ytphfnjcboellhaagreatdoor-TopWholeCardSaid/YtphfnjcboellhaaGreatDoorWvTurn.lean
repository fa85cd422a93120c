import Derived.Test.YtphfnjcboellhaaGreatDoorWvLoom
import Derived.Test.YtphfnjcboellhaaGreatDoorObjA
import Derived.Test.YtphfnjcboellhaaGreatDoorObj2r
import Derived.Test.YtphfnjcboellhaaGreatDoorObj2f
namespace Go.Proofs.YtphfnjcboellhaaGreatDoor.wv
open Go Go.RowKit kit obj mem core
set_option maxRecDepth 20000
set_option maxHeartbeats 8000000 in
theorem begin_new {kk : Nat} {T : TypeId} {w0 r0 : Int} {K : Kind} (H : Ops kk K T frO (RightO kk) w0 r0) (tT : (T ≠ 71 /\ T ≠ 102) /\ T ≠ 59 /\ T ≠ 45) {W V : World} {o : ObV} {L : Lo} {z : LV} (h : LoomAt kk T W V o L z) {k : Nat} {m : PM} {t : Td} {l : List Td} (hm : L.ps[k]? = some m) (hov : m.over = true) (hl : m.left = t :: l) (hright : RightO kk o)
 (htd : (t.op = w0 /\ k = 0 /\ (t.wds.length : Int) = o.w) \/ (t.op = r0 /\ 0 < k /\ k <= o.rl /\ t.wds = [])) (hcl : L.cs.length <= 50000) (hk8 : k <= 1000) (hw : t.wds.length <= 1000) :
 Calls Tryz.prog 37 #[.pointer (some ⟨z.lb, 0, none⟩), .int .i64 (k : Int)] V fun e V' => e = .returned (.bool true) /\ ∃ z', LoomAt kk T W V' o ⟨L.ws, L.ps.set k ⟨l, some (frO o t.op (max ((k : Int) - 1) 0), t.wds), L.cs.length⟩, L.cs ++ [⟨k, 0, t.op, t.wds, 0, L.now, -1⟩], L.now⟩ z' /\ z'.lb = z.lb /\ z'.mb = z.mb /\ z'.sv = z.sv /\ z'.nm = z.nm := by
 have hk : k < L.ps.length := (List.getElem?_eq_some_iff.1 hm).1
 obtain ⟨x, hx⟩ := h.pv hk
 obtain ⟨g, hg⟩ := h.addr (by omega)
 obtain ⟨⟨p0, p1, p2⟩, pf⟩ := h.pcell hg hx hm
 have hov2 := h.overs H hx hm
 rw [hov] at hov2
 have c9 : V.cell? ⟨z.lb, 9, none⟩ = some (.slice z.pa L.ps.length z.pc) := h.box.cell rfl
 rw [hg] at c9
 obtain ⟨n, hn⟩ : ∃ n, L.ps.length = n := ⟨_, rfl⟩
 rw [hn] at c9 hk
 have ix := index_at (size := 3) Tryz.underlying57 szProc g n z.pc k hk
 obtain ⟨hlr, htr⟩ := h.left k m x hm hx
 rw [hl] at hlr htr
 obtain ⟨la, lc, hlv⟩ : ∃ a c, x.lv = .slice a (l.length + 1) c := by
  obtain ⟨a, c, e, _⟩ := reads_slice hlr; exact ⟨a, c, e⟩
 rw [hlv] at p0 hlr
 obtain ⟨la2, lc2, htail, hrt⟩ := tail_any hlr
 have hgb : (Value.slice z.pa L.ps.length z.pc).ownBlock = some g := by rw [hg]; rfl
 have hgW := World.ownsRow.lt h.procs g hgb
 obtain ⟨b2, o2, hx2, hc2, -⟩ := reads_index (P := Tryz.prog) Tryz.underlying41 szTodo (hlr.fresh h.chg)
 have ix0 := hx2 0 (Nat.succ_pos _)
 simp only [Int.natCast_zero, Nat.zero_mul, Nat.add_zero] at ix0
 have t0 : V.cell? ⟨b2, o2, none⟩ = some (.int .i64 t.op) := by have := hc2 0 _ rfl; rwa [Nat.add_zero] at this
 have t1 : V.cell? ⟨b2, o2 + 1, none⟩ = some (.slice t.a t.wds.length t.c) := hc2 1 _ rfl
 obtain ⟨wa, hwa⟩ : ∃ w, V.alloc (.cells #[.int .i64 t.op, .slice t.a t.wds.length t.c] 43) = w := ⟨_, rfl⟩
 have hca : Chg [] V wa := by rw [<- hwa]; exact (Chg.refl [] V).alloc _
 have hba : Blk wa V.heap.size #[.int .i64 t.op, .slice t.a t.wds.length t.c] 43 := by rw [<- hwa]; exact Blk.new V _ _
 have hg6 := (h.fresh hca).pcell hg hx hm
 rw [hlv] at hg6
 obtain ⟨⟨q0, q1, q2⟩, qf⟩ := hg6
 have qf0 := qf 0 (by decide)
 rw [Nat.add_zero] at qf0
 obtain ⟨V7, hV7⟩ : ∃ w, wa.setCell ⟨g, k * 3, none⟩ (.slice la2 l.length lc2) = w := ⟨_, rfl⟩
 have hc7 : Chg [g] wa V7 := by rw [<- hV7]; exact (Chg.refl [g] wa).setCell (.inl (by simp)) _
 have HL7 : Hid (LoomAt kk T W V7 o { L with ps := L.ps.set k { m with left := l } } { z with xs := z.xs.set k { x with lv := .slice la2 l.length lc2 } }) := hid (by
  have h6 := h.fresh hca
  have hrow := row_put (enc := PV.enc) (sz := 3) (fun _ => rfl) (h6.prow hg) k 0 (by decide) (x, m) ({ x with lv := .slice la2 l.length lc2 }, { m with left := l }) (zip_get hx hm) (.slice la2 l.length lc2) rfl
  rw [Nat.add_zero, hV7, List.length_set, h6.zlen, zip_set, ← hg] at hrow
  refine h6.setProc tT.1.1 hg hc7 _ _ hrow ⟨hrt, fun t' ht' => htr t' (by simp [ht'])⟩ ?_ (fun j y hj hy => ⟨h.apart k j x y (fun he => hj he.symm) hx hy, h.apart j k y x hj hy hx⟩) (fun i r ob bx v h1 h2 => h.rvd i r k x ob bx v h1 hx h2) (h.low.2.2.2 k x hx)
  have hne := h6.ne_row h6.procs hgb (by decide) (by decide) (by decide) (by decide) (fun he => tT.1.1 he.symm)
  exact (h6.op k m x hm hx).keepL hc7 (fun ob bx v he => by
   obtain ⟨k1, k2, k3⟩ := hne.2.2.2.1 k m x ob bx v hm hx he
   exact ⟨fun hm => k1 (List.mem_singleton.1 hm), fun hm => k2 (List.mem_singleton.1 hm), fun y hy hm => k3 y hy (List.mem_singleton.1 hm)⟩) (fun hm => hne.2.1 (List.mem_singleton.1 hm).symm) (fun y hy hm => hne.2.2.1 y hy (List.mem_singleton.1 hm)))
 have HTB : Hid (Blk V7 V.heap.size #[.int .i64 t.op, .slice t.a t.wds.length t.c] 43) := hid (hba.keep hc7 (fun hm => by have := List.mem_singleton.1 hm; omega))
 have HO := hid hov2
 have HX := hid (⟨h, hm, hx, hg, hn⟩ : _ /\ _ /\ _ /\ _ /\ _)
 have HA := hid (⟨hright, htd, hcl, hw, htr t (by simp)⟩ : _ /\ _ /\ _ /\ _ /\ _)
 have HV7 : Hid (Chg [g] V V7 /\ V.heap.size <= V7.heap.size) := hid ⟨(hca.mono (by simp)).trans hc7, Nat.le_trans hca.size hc7.size⟩
 have HT := hid tT
 have HGG := hid (⟨hgb, hgW⟩ : _ /\ _)
 obtain ⟨opv, hopv⟩ : ∃ y, x.opv = y := ⟨_, rfl⟩
 rw [hopv] at HO p1 q1
 obtain ⟨nl, hnl⟩ : ∃ y, l.length = y := ⟨_, rfl⟩
 have HNL := hid hnl
 rw [hnl] at htail p0 ix0 hV7 q0
 have kw : IntKind.i64.wrap ((k : Int) - 1) = (k : Int) - 1 := by rw [IntKind.wrap_i64]; omega
 have hne0 : (((nl + 1 : Nat) : Int) == 0) = false := by simp; omega
 clear hk hov hov2 hn hl hlr htr hrt hx2 hc2 hba hca hc7 hopv hnl pf qf p2 q1 q2 hlv hright htd hcl hw hk8 hgb hgW hx hm hg h tT
 go_enter Tryz.func37, Tryz.ntmps37
 go_upto_region 8 with (go_at_call 39; refine HO.out.mono ?_; rintro e w1 ⟨rfl, rfl⟩)
 clear hwa hV7 t0 t1 q0 qf0 c9 p0 p1 ix0 htail
 have hz7 : ∀ V' : World, Chg [g] V7 V' -> ((V'.cell? ⟨z.lb, 0, none⟩ = some (.int .i64 o.k) /\ V'.cell? ⟨z.lb, 1, none⟩ = some (.int .i64 o.w) /\ V'.cell? ⟨z.lb, 2, none⟩ = some (.int .i64 o.s) /\ V'.cell? ⟨z.lb, 3, none⟩ = some (.int .i64 o.c)) /\ (V'.cell? ⟨z.lb, 4, none⟩ = some (.int .u32 o.st) /\ V'.cell? ⟨z.lb, 5, none⟩ = some (.slice o.ia o.il o.ic) /\ V'.cell? ⟨z.lb, 6, none⟩ = some (.int .i64 o.wr) /\ V'.cell? ⟨z.lb, 7, none⟩ = some (.slice o.ra o.rl o.rc)) /\ V'.cell? ⟨V.heap.size, 0, none⟩ = some (.int .i64 t.op) /\ V'.cell? ⟨V.heap.size, 1, none⟩ = some (.slice t.a t.wds.length t.c)) := fun V' hV' => by
  have hgb7 : (Value.slice z.pa L.ps.length z.pc).ownBlock = some g := HGG.out.1
  have hbx := HL7.out.box.keep hV' (fun hm => own_type HX.out.1.procs HX.out.1.box (by decide) g hgb7 (List.mem_singleton.1 hm).symm)
  have htb := HTB.out.keep hV' (fun hm => by have := List.mem_singleton.1 hm; have := HGG.out.2; omega)
  exact ⟨⟨hbx.cell (o := 0) rfl, hbx.cell (o := 1) rfl, hbx.cell (o := 2) rfl, hbx.cell (o := 3) rfl⟩, ⟨hbx.cell (o := 4) rfl, hbx.cell (o := 5) rfl, hbx.cell (o := 6) rfl, hbx.cell (o := 7) rfl⟩, htb.cell (o := 0) rfl, htb.cell (o := 1) rfl⟩
 have FA := hid hz7
 have HBE := hid (fun V' (hV' : Chg [] V7 V') => H.begin_ (o := o) (op := t.op) (rd_ := max ((k : Int) - 1) 0) (rv := .slice t.a t.wds.length t.c) (r := t.wds) (W := V') HA.out.1 (HA.out.2.2.2.2.chg (HL7.out.chg.trans hV')) (by rcases HA.out.2.1 with ⟨e1, e2, e3⟩ | ⟨e1, e2, e3, e4⟩; exact .inl ⟨e1, by omega, e3⟩; exact .inr ⟨e1, by omega, by omega, e4⟩))
 clear hz7
 have hHeld : (fun V' : World => Hid (Chg [g] V7 V')) (World.drew V7) := hid (Chg.refl [g] V7).drew
 refine wp_region_plan (fun V' : World => Hid (Chg [g] V7 V')) [(0, true, some 40), (1, true, some 41), (2, true, some 42), (3, true, some 43), (4, true, some 44), (5, true, some 45), (6, true, some 46), (7, true, some 47), (8, true, some 48), (9, true, some 49), (10, true, some 50), (11, true, some 51), (12, false, some 52), (13, true, some 39), (14, true, some 53), (15, true, some 54), (16, true, some 55), (17, true, some 56), (18, false, none)] (by kernel_rfl) (by kernel_rfl) (by kernel_rfl) (by kernel_rfl) (fun d c a v w h => by cases d <;> exact h) hHeld ?_
 repeat (first
  | (refine planWp_read (v := ?_) rfl rfl ?_ ?_ ?_; rotate_left; (focus rfl); (focus (intro u hSw; (try dsimp only at hSw); obtain ⟨⟨e0, e1, e2, e3⟩, ⟨e4, e5, e6, e7⟩, f0, f1⟩ := FA.out u hSw.out; go_simp; (try with_reducible rfl))); (try simp only [Act.put, sA, sB, sC])))
 refine planWp_do rfl rfl ?_ (fun K hK => ?_)
 focus rfl
 go_simp
 have hif : (if (k : Int) - 1 < 0 then (0 : Int) else (k : Int) - 1) = max ((k : Int) - 1) 0 := by split <;> omega
 rw [hif]
 obtain ⟨rd, hrd⟩ : ∃ y, max ((k : Int) - 1) 0 = y := ⟨_, rfl⟩
 have HRD := hid hrd
 rw [hrd] at HBE ⊢
 clear hif hrd
 go_wp2_with (go_at_call 60; refine (HBE.out _ ((Chg.refl [] V7).drew)).mono ?_; rintro e w8 ⟨ob, bx, v8, rfl, hb8, hx8, ho8, hn8, hg8, hc8⟩; have HB8 : Hid (Blk w8 ob (opCells kk bx) 102 /\ Blk w8 bx ((frO o t.op rd).cells v8) T /\ OwnW w8 V7.heap.size v8 t.wds /\ (∀ y, v8.ownBlock = some y -> y ≠ bx /\ y ≠ ob) /\ V7.heap.size <= ob /\ V7.heap.size <= bx /\ ob ≠ bx) := hid ⟨hb8, hx8, ho8, hn8, hg8⟩; have HC8 : Hid (Chg [] V7 w8) := hid (((Chg.refl [] V7).drew).trans hc8); clear hb8 hx8 ho8 hn8 hg8 hc8)
 have hx7 : (z.xs.set k { x with lv := .slice la2 l.length lc2 })[k]? = some { x with lv := .slice la2 l.length lc2 } := by rw [List.getElem?_set, if_pos rfl, if_pos (List.getElem?_eq_some_iff.1 HX.out.2.2.1).1]
 have hm7 : (L.ps.set k { m with left := l })[k]? = some { m with left := l } := by rw [List.getElem?_set, if_pos rfl, if_pos (List.getElem?_eq_some_iff.1 HX.out.2.1).1]
 have hp8 := (HL7.out.fresh HC8.out).pcell HX.out.2.2.2.1 hx7 hm7
 obtain ⟨⟨q0, q1, q2⟩, qf⟩ := hp8
 have qf1 := qf 1 (by decide)
 have HXM := hid (⟨hx7, hm7⟩ : _ /\ _)
 clear qf hx7 hm7 q0
 refine hK.out _ _ ?_ (fun hHeld2 => ?_)
 focus exact hid (HC8.out.mono (by simp))
 clear hK K hHeld2 hHeld
 try simp only [Act.put, sA, sB, sC]
 repeat (first
  | (refine planWp_read (v := ?_) rfl rfl ?_ ?_ ?_; rotate_left; (focus rfl); (focus (intro u hSw; go_simp; (try with_reducible rfl))); (try simp only [Act.put, sA, sB, sC])))
 refine planWp_do rfl rfl ?_ (fun K hK => ?_)
 focus rfl
 go_simp
 go_wp2_with fail
 obtain ⟨V8, hV8⟩ : ∃ w, w8.setCell ⟨g, k * 3 + 1, none⟩ (.pointer (some ⟨ob, 0, none⟩)) = w := ⟨_, rfl⟩
 have hc8 : Chg [g] w8 V8 := by rw [<- hV8]; exact (Chg.refl [g] w8).setCell (.inl (by simp)) _
 have hrow8 := row_put (enc := PV.enc) (sz := 3) (fun _ => rfl) ((HL7.out.fresh HC8.out).prow HX.out.2.2.2.1) k 1 (by decide) _ ({ lv := .slice la2 l.length lc2, op := some (ob, bx, v8) }, { m with left := l }) (zip_get HXM.out.1 HXM.out.2) (.pointer (some ⟨ob, 0, none⟩)) rfl
 rw [hV8] at hrow8 ⊢
 have f2 := (row_cell (enc := PV.enc) (sz := 3) (fun _ => rfl) hrow8 k 2 (by decide) ({ lv := .slice la2 l.length lc2, op := some (ob, bx, v8) }, { m with left := l }) (by rw [List.getElem?_set, if_pos rfl, if_pos (by have := (List.getElem?_eq_some_iff.1 (zip_get HXM.out.1 HXM.out.2)).1; exact this)]) _ rfl)
 obtain ⟨q2', qf2⟩ := f2
 have hgne : z.lb ≠ g := fun he => own_type HX.out.1.procs HX.out.1.box (by decide) g HGG.out.1 he.symm
 have hb8 := (HL7.out.box.keep HC8.out (by simp)).keep hc8 (fun hm => hgne (List.mem_singleton.1 hm))
 have c10 : V8.cell? ⟨z.lb, 10, none⟩ = some (.slice z.ca L.cs.length z.cc) := hb8.cell rfl
 have HR8 := hid hrow8
 have HCg := hid hc8
 refine hK.out _ _ ?_ (fun hHeld2 => ?_)
 focus exact hid ((HC8.out.mono (by simp)).trans hc8)
 clear hK K hHeld2 hV8 hc8 hrow8 hb8 q1 q2 qf1
 try simp only [Act.put, sA, sB, sC]
 refine planWp_nil ?_
 go_upto_region 10 with fail
 obtain ⟨V9, hV9⟩ : ∃ w, V8.setCell ⟨g, k * 3 + 2, none⟩ (.int .i64 (L.cs.length : Int)) = w := ⟨_, rfl⟩
 have hc9 : Chg [g] V8 V9 := by rw [<- hV9]; exact (Chg.refl [g] V8).setCell (.inl (by simp)) _
 have HL9 : Hid (LoomAt kk T W V9 o { L with ps := L.ps.set k ⟨l, some (frO o t.op rd, t.wds), L.cs.length⟩ } { z with xs := z.xs.set k ⟨.slice la2 l.length lc2, some (ob, bx, v8)⟩ }) := hid (by
  have h8 := HL7.out.fresh HC8.out
  have hlen : (List.zip (z.xs.set k { x with lv := .slice la2 l.length lc2 }) (L.ps.set k { m with left := l })).length = L.ps.length := by rw [List.length_zip, List.length_set, List.length_set, HX.out.1.xlen, Nat.min_self]
  have hrow := row_put (enc := PV.enc) (sz := 3) (fun _ => rfl) HR8.out k 2 (by decide) ({ lv := .slice la2 l.length lc2, op := some (ob, bx, v8) }, { m with left := l }) ({ lv := .slice la2 l.length lc2, op := some (ob, bx, v8) }, ⟨l, some (frO o t.op rd, t.wds), L.cs.length⟩) (by rw [List.getElem?_set, if_pos rfl, if_pos (by have := (List.getElem?_eq_some_iff.1 (zip_get HXM.out.1 HXM.out.2)).1; exact this)]) (.int .i64 (L.cs.length : Int)) rfl
  rw [hV9, List.set_set, zip_set] at hrow
  simp only [List.length_zip, List.length_set, HX.out.1.xlen, Nat.min_self] at hrow
  rw [<- HX.out.2.2.2.1] at hrow
  have hsz : ∀ b ∈ (PV.bs ⟨.slice la2 l.length lc2, some (ob, bx, v8)⟩), V7.heap.size <= b := by
   intro b hb
   simp only [PV.bs, List.mem_cons, Option.mem_toList, Option.mem_def] at hb
   rcases hb with rfl | rfl | hb
   · exact HB8.out.2.2.2.2.1
   · exact HB8.out.2.2.2.2.2.1
   · exact own_ge HB8.out.2.2.1 b hb
  have hold : ∀ (j : Nat) y ob' bx' v', j ≠ k -> z.xs[j]? = some y -> y.op = some (ob', bx', v') -> ob' < V7.heap.size /\ bx' < V7.heap.size /\ ∀ q, v'.ownBlock = some q -> q < V7.heap.size := by
   intro j y ob' bx' v' hj hy he
   have hjl : j < L.ps.length := by rw [<- HX.out.1.xlen]; exact (List.getElem?_eq_some_iff.1 hy).1
   obtain ⟨mj, hmj⟩ : ∃ q, L.ps[j]? = some q := ⟨_, List.getElem?_eq_getElem hjl⟩
   have hop := HX.out.1.op j mj y hmj hy
   rw [he] at hop
   match hmo : mj.o, hop with
   | none, hop => exact (show False from hop).elim
   | some (c1, r1), hop => 
    have h1 := HV7.out.2
    exact ⟨Nat.lt_of_lt_of_le hop.1.lt h1, Nat.lt_of_lt_of_le hop.2.box.lt h1, fun q hq => Nat.lt_of_lt_of_le (World.ownsRow.lt hop.2.row q hq).2 h1⟩
  have hcc : Chg [g] w8 V9 := HCg.out.trans hc9
  have hgV7 : g < V7.heap.size := Nat.lt_of_lt_of_le HGG.out.2.2 HV7.out.2
  have hne7 := HL7.out.ne_row (g := g) HL7.out.procs (by show (Value.slice z.pa _ z.pc).ownBlock = some g; rw [HX.out.2.2.2.1]; rfl) (by decide) (by decide) (by decide) (by decide) (fun he => HT.out.1.1 he.symm)
  have hmemV9 : MemAt V9 z.mb z.sv L.ws z.nm := (HL7.out.mem.fresh HC8.out).keep hcc (fun hm => hne7.2.1 (List.mem_singleton.1 hm).symm) (fun y hy hm => hne7.2.2.1 y hy (List.mem_singleton.1 hm))
  have hres := h8.setProc HT.out.1.1 HX.out.2.2.2.1 hcc ⟨.slice la2 l.length lc2, some (ob, bx, v8)⟩ ⟨l, some (frO o t.op rd, t.wds), L.cs.length⟩ (by
   show V9.ownsRow _ _ 3 (.slice z.pa (L.ps.set k _).length z.pc) (L.ps.set k _).length (rows ((z.xs.set k _).set k _) ((L.ps.set k _).set k _))
   rw [List.length_set]
   exact hrow) (by
   have h1 := HL7.out.left k _ _ HXM.out.2 HXM.out.1
   exact h1) ⟨HB8.out.1.keep hcc (fun hm => by have := List.mem_singleton.1 hm; have := HB8.out.2.2.2.2.1; omega), HB8.out.2.1.keep hcc (fun hm => by have := List.mem_singleton.1 hm; have := HB8.out.2.2.2.2.2.1; omega), mem.own_chg (mem.own_base HB8.out.2.2.1 (Nat.zero_le _)) hcc (fun y hy hm => by have := List.mem_singleton.1 hm; have := own_ge HB8.out.2.2.1 y hy; omega), HA.out.2.2.2.2.2, HA.out.2.2.2.1, hmemV9, (show bx ≠ z.mb by have h1 : z.mb < V7.heap.size := HL7.out.mem.box.lt; have := HB8.out.2.2.2.2.2.1; omega), (fun y hy => by have := (World.ownsRow.lt HL7.out.mem.row y hy).2; have := HB8.out.2.2.2.2.2.1; omega), fun y hy => ⟨(HB8.out.2.2.2.1 y hy).1, (show y ≠ z.mb by have := own_ge HB8.out.2.2.1 y hy; have h1 : z.mb < V7.heap.size := HL7.out.mem.box.lt; omega), fun he => by have := own_ge HB8.out.2.2.1 y hy; have := (World.ownsRow.lt HL7.out.mem.row y he).2; omega⟩⟩ ?_ ?_ (fun b hb => Nat.le_trans HL7.out.chg.size (hsz b hb))
  · simpa only [List.set_set] using hres
  · intro j y hj hy
    rw [List.getElem?_set, if_neg (fun he => hj he.symm)] at hy
    refine ⟨fun ob1 bx1 v1 ob2 bx2 v2 e1 e2 => ?_, fun ob1 bx1 v1 ob2 bx2 v2 e1 e2 => ?_⟩
    · cases e1
      obtain ⟨k1, k2, k3⟩ := hold j y ob2 bx2 v2 hj hy e2
      exact ⟨by have := HB8.out.2.2.2.2.1; omega, by have := HB8.out.2.2.2.2.2.1; omega, fun q hq hq2 => by have := own_ge HB8.out.2.2.1 q hq; have := k3 q hq2; omega⟩
    · cases e2
      obtain ⟨k1, k2, k3⟩ := hold j y ob1 bx1 v1 hj hy e1
      exact ⟨by have := HB8.out.2.2.2.2.1; omega, by have := HB8.out.2.2.2.2.2.1; omega, fun q hq hq2 => by have := own_ge HB8.out.2.2.1 q hq2; have := k3 q hq; omega⟩
  · intro i r ob1 bx1 v1 h1 h2 q hq hq2
    cases h2
    have hil : i < L.cs.length := by rw [<- HX.out.1.rlen]; exact (List.getElem?_eq_some_iff.1 h1).1
    have h3 := (World.ownsRow.lt (HX.out.1.recs i _ r (List.getElem?_eq_getElem hil) h1).1 q hq).2
    have h4 := own_ge HB8.out.2.2.1 q hq2
    have h5 := HV7.out.2
    omega)
 have HC9 : Hid (Chg [g] V7 V9) := hid (((HC8.out.mono (by simp)).trans HCg.out).trans hc9)
 rw [hV9]
 clear hV9 hc9 c10 q2' qf2
 obtain ⟨cb, hcb⟩ : ∃ y, (Value.slice z.ca L.cs.length z.cc).ownBlock.toList = y := ⟨_, rfl⟩
 have hz9 : ∀ V' : World, Chg cb V9 V' -> Blk V' z.lb (loomCells o z.mb (.slice z.pa L.ps.length z.pc) (.slice z.ca L.cs.length z.cc) L.now) 59 /\ Blk V' V.heap.size #[.int .i64 t.op, .slice t.a t.wds.length t.c] 43 := fun V' hV' => by
  have hbx : Blk V9 z.lb (loomCells o z.mb (.slice z.pa (L.ps.set k _).length z.pc) (.slice z.ca L.cs.length z.cc) L.now) 59 := HL9.out.box
  rw [List.length_set] at hbx
  have htb := HTB.out.keep HC9.out (fun hm => by have := List.mem_singleton.1 hm; have := HGG.out.2; omega)
  rw [<- hcb] at hV'
  exact ⟨hbx.keep hV' (fun hm => own_type HL9.out.calls HL9.out.box (by decide) _ (Option.mem_toList.1 hm) rfl), htb.keep hV' (fun hm => own_type HL9.out.calls htb (by decide) _ (Option.mem_toList.1 hm) rfl)⟩
 have FB := hid hz9
 have HCB := hid hcb
 clear hz9 hcb
 obtain ⟨i0, hi0, hz0, hz1, hz2⟩ := info_parts infoCall
 have hHeld : (fun V' : World => Hid (Chg cb V9 V')) (World.drew V9) := hid (Chg.refl cb V9).drew
 refine wp_region_planT (fun V' : World => Hid (Chg cb V9 V')) 20 [(0, true, some 65), (1, true, some 66), (2, true, some 67), (3, true, some 68), (4, true, some 69), (5, true, some 70), (6, true, some 71), (7, true, some 72), (8, true, some 73), (9, true, some 74), (11, true, some 76), (12, true, some 77), (13, true, some 78), (14, true, some 79), (10, false, some 75), (15, true, some 80), (16, false, some 81), (17, false, some 82), (18, true, some 83), (19, true, some 84)] (by kernel_rfl) (by kernel_rfl) (by kernel_rfl) (by kernel_rfl) (by kernel_rfl) (fun d c a v w h => by cases d <;> exact h) hHeld ?_
 repeat (first
  | (refine planT_read (v := ?_) rfl rfl ?_ ?_ ?_; rotate_left; (focus rfl); (focus (intro u hSw; (try dsimp only at hSw); obtain ⟨e1, e2⟩ := FB.out u hSw.out; have h10 : u.cell? ⟨z.lb, 10, none⟩ = some (.slice z.ca L.cs.length z.cc) := e1.cell rfl; have h11 : u.cell? ⟨z.lb, 11, none⟩ = some (.int .i64 (L.now : Int)) := e1.cell rfl; have h20 : u.cell? ⟨V.heap.size, 0, none⟩ = some (.int .i64 t.op) := e2.cell rfl; have h21 : u.cell? ⟨V.heap.size, 1, none⟩ = some (.slice t.a t.wds.length t.c) := e2.cell rfl; go_simp; (try with_reducible rfl))); (try simp only [Act.put, sA, sB, sC])))
 refine planT_do rfl rfl ?_ (fun K hK => ?_)
 focus rfl
 go_simp
 go_wp2_with (go_at_call 61; refine (Clone_words (.slice t.a t.wds.length t.c) t.wds _ (HA.out.2.2.2.2.chg (HL9.out.chg.drew)) (by have := HA.out.2.2.2.1; omega)).mono ?_; rintro e wc ⟨rv, rfl, hoc, hcc⟩; obtain ⟨ra, rc, rfl⟩ := own_open hoc; have HOC : Hid (OwnW wc V9.heap.size _ t.wds) := hid hoc; have HCC : Hid (Chg [] V9 wc) := hid (((Chg.refl [] V9).drew).trans hcc); clear hoc hcc)
 refine hK.out _ _ ?_ (fun hHeld2 => ?_)
 focus exact hid (HCC.out.mono (by simp))
 clear hK K hHeld2 hHeld
 try simp only [Act.put, sA, sB, sC]
 repeat (first
  | (refine planT_read (v := ?_) rfl rfl ?_ ?_ ?_; rotate_left; (focus rfl); (focus (intro u hSw; go_simp; (try with_reducible rfl))); (try simp only [Act.put, sA, sB, sC])))
 refine planT_do rfl rfl ?_ (fun K hK => ?_)
 focus rfl
 go_simp
 go_wp2_with fail
 have hrl : Reads (wc.alloc (.cells #[.int .i64 (k : Int), .int .i64 0, .int .i64 t.op, .slice ra t.wds.length rc, .int .i64 0, .int .i64 (L.now : Int), .int .i64 (-1)] 45)) 7 (.slice (some ⟨wc.heap.size, 0, none⟩) 1 1) 1 (CV.cells ⟨(k : Int), 0, t.op, .slice ra t.wds.length rc, 0, (L.now : Int), -1⟩) := ⟨rfl, by decide, .inr ⟨by decide, _, _, _, rfl, Nat.le_refl _, by decide, fun i u hu => by have := call_cells wc (k : Int) 0 t.op (.slice ra t.wds.length rc) 0 (L.now : Int) (-1) i u hu; rwa [add_plain] at this⟩⟩
 obtain ⟨wl, hwl⟩ : ∃ w, wc.alloc (.cells #[.int .i64 (k : Int), .int .i64 0, .int .i64 t.op, .slice ra t.wds.length rc, .int .i64 0, .int .i64 (L.now : Int), .int .i64 (-1)] 45) = w := ⟨_, rfl⟩
 rw [hwl] at hrl ⊢
 have hcl : Chg [] wc wl := by rw [<- hwl]; exact (Chg.refl [] wc).alloc _
 have HRL := hid hrl
 have HCL := hid (HCC.out.trans hcl)
 have HWL := hid hcl
 have hOC := mem.own_chg HL9.out.calls HCL.out (by simp)
 have HOCL := hid hOC
 refine hK.out _ _ ?_ (fun hHeld2 => ?_)
 focus exact hid (HCL.out.mono (by simp))
 clear hK K hHeld2 hwl hcl hrl hOC
 try simp only [Act.put, sA, sB, sC]
 refine planT_do rfl rfl ?_ (fun K hK => ?_)
 focus rfl
 refine wp_append_any (o := ⟨some 82, _, _, _, _, _⟩) _ (.tmp 69) (.tmp 81) 34 rfl W.heap.size 45 i0 (.agg #[.int .i64 0, .int .i64 0, .int .i64 0, .slice none 0 0, .int .i64 0, .int .i64 0, .int .i64 0]) 7 72 Tryz.underlying34 hi0 hz0 hz1 hz2 rfl (by decide) (.slice z.ca L.cs.length z.cc) L.cs.length ((cvs L.cs z.rvs).flatMap CV.cells) rfl HOCL.out _ 1 _ rfl HRL.out (by simp [Value.oneCell', CV.cells]) (by have := HA.out.2.2.1; unfold maxLen; omega) (by have := HA.out.2.2.1; omega) (by have h1 := HL9.out.chg.size; have h2 := HCL.out.size; omega) ?_
 intro v10 w10 hown10 hgrow10
 obtain ⟨oa10, oc10, rfl⟩ := own_open hown10
 have HKB : Hid (Chg cb wl w10) := hid (by rw [<- HCB.out]; exact (Chg.refl (Value.slice z.ca L.cs.length z.cc).ownBlock.toList wl).grown hgrow10 (fun k hk => .inl (Option.mem_toList.2 hk)))
 have HO10 := hid hown10
 refine hK.out _ _ ?_ (fun hHeld2 => ?_)
 focus exact hid ((HCL.out.mono (by simp)).trans HKB.out)
 clear hK K hHeld2 hown10 hgrow10
 try simp only [Act.put, sA, sB, sC]
 repeat (first
  | (refine planT_read (v := ?_) rfl rfl ?_ ?_ ?_; rotate_left; (focus rfl); (focus (intro u hSw; go_simp; (try with_reducible rfl))); (try simp only [Act.put, sA, sB, sC])))
 refine planT_last rfl rfl (fun K hK => ?_)
 have HB10 := hid ((FB.out w10 ((HCL.out.mono (by simp)).trans HKB.out)).1)
 have b10 : w10.cell? ⟨z.lb, 10, none⟩ = some (.slice z.ca L.cs.length z.cc) := HB10.out.cell rfl
 have f10 := HB10.out.free 10
 go_wp2
 refine hK.out _ _ ?_
 clear hK K b10 f10
 obtain ⟨V10, hV10⟩ : ∃ w, w10.setCell ⟨z.lb, 10, none⟩ (.slice oa10 (L.cs.length + 1) oc10) = w := ⟨_, rfl⟩
 have HB11 : Hid (Blk V10 z.lb (loomCells o z.mb (.slice z.pa L.ps.length z.pc) (.slice oa10 (L.cs.length + 1) oc10) L.now) 59) := hid (by rw [<- hV10]; exact HB10.out.set 10 _)
 have HCV : Hid (Chg [z.lb] w10 V10) := hid (by rw [<- hV10]; exact (Chg.refl [z.lb] w10).setCell (.inl (by simp)) _)
 rw [hV10]
 clear hV10
 go_wp2
 go_ret
 rw [HRD.out]
 have cown : (Value.slice z.ca L.cs.length z.cc).ownBlock.toList = cb := HCB.out
 have CC : Chg (z.lb :: (Value.slice z.ca L.cs.length z.cc).ownBlock.toList) V9 V10 := by
  rw [cown]
  exact ((HCL.out.mono (by simp)).trans (HKB.out.mono (fun y hy => List.mem_cons_of_mem _ hy))).trans (HCV.out.mono (by simp))
 have CL : Chg (z.lb :: (Value.slice z.ca L.cs.length z.cc).ownBlock.toList) wc V10 := by
  rw [cown]
  refine Chg.trans (Chg.trans (Chg.mono ?_ (L := []) (by simp)) (HKB.out.mono (fun y hy => List.mem_cons_of_mem _ hy))) (HCV.out.mono (by simp))
  exact HWL.out
 have hout : ∀ (r : Value) (wds : List Int) (B : Nat) (U : World), Chg [] U wl -> OwnW U B r wds -> ∀ y, r.ownBlock = some y -> y ∉ z.lb :: (Value.slice z.ca L.cs.length z.cc).ownBlock.toList := fun r wds B U hu ho y hy hm => by
  have ho2 := mem.own_chg ho hu (by simp)
  rcases List.mem_cons.1 hm with h1 | h1
  · exact own_type ho2 ((FB.out wl (HCL.out.mono (by simp))).1) (by decide) y hy h1
  · exact own_type2 ho2 HOCL.out (by decide) y hy (Option.mem_toList.1 h1)
 have hlt : ∀ (i : Nat) (q : PV) ob' bx' v', (z.xs.set k ⟨.slice la2 l.length lc2, some (ob, bx, v8)⟩)[i]? = some q -> q.op = some (ob', bx', v') -> ∀ b, v'.ownBlock = some b -> b < V9.heap.size := fun i q ob' bx' v' hq he b hb => by
  have hil : i < (L.ps.set k ⟨l, some (frO o t.op rd, t.wds), L.cs.length⟩).length := by
   have h1 := (List.getElem?_eq_some_iff.1 hq).1
   have h2 := HL9.out.xlen
   exact h2 ▸ h1
  obtain ⟨mj, hmj⟩ : ∃ q, (L.ps.set k ⟨l, some (frO o t.op rd, t.wds), L.cs.length⟩)[i]? = some q := ⟨_, List.getElem?_eq_getElem hil⟩
  have hop := HL9.out.op i mj q hmj hq
  rw [he] at hop
  match hmo : mj.o, hop with
  | none, hop => exact (show False from hop).elim
  | some (c1, r1), hop => exact (World.ownsRow.lt hop.2.row b hb).2
 have hrv := own_ge HOC.out
 refine ⟨rfl, { z with xs := z.xs.set k ⟨.slice la2 l.length lc2, some (ob, bx, v8)⟩, ca := oa10, cc := oc10, rvs := z.rvs ++ [.slice ra t.wds.length rc] }, ?_, rfl, rfl, rfl, rfl⟩
 refine HL9.out.setCalls ⟨HT.out.2.1, HT.out.2.2⟩ CC oa10 oc10 (L.cs ++ [⟨k, 0, t.op, t.wds, 0, L.now, -1⟩]) (z.rvs ++ [.slice ra t.wds.length rc]) L.now ?_ ?_ (by rw [List.length_append, List.length_append, HX.out.1.rlen]; rfl) ?_ ?_ ?_
 · have h1 := HB11.out
   rw [List.length_append, List.length_set]
   exact h1
 · rw [cvs_snoc HX.out.1.rlen, List.flatMap_append, List.length_append]
   refine mem.own_chg (show w10.ownsRow W.heap.size 45 7 (.slice oa10 (L.cs.length + 1) oc10) (L.cs.length + 1) _ from ?_) HCV.out (fun y hy hm => own_type HO10.out HB10.out (by decide) y hy (List.mem_singleton.1 hm))
   have h1 := HO10.out
   rw [show ([(⟨(k : Int), 0, t.op, t.wds, 0, (L.now : Int), -1⟩ : Cl).cv (.slice ra t.wds.length rc)]).flatMap CV.cells = CV.cells ⟨(k : Int), 0, t.op, .slice ra t.wds.length rc, 0, (L.now : Int), -1⟩ from List.append_nil _]
   exact h1
 · intro i cl r h1 h2
   rw [List.getElem?_append] at h1 h2
   rw [HX.out.1.rlen] at h2
   split at h1
   · rename_i hi
     rw [if_pos hi] at h2
     have h3 := HL9.out.recs i cl r h1 h2
     exact ⟨mem.own_chg h3.1 CC (hout r _ _ V9 HCL.out h3.1), h3.2⟩
   · rename_i hi
     rw [if_neg hi] at h2
     have e1 := List.mem_singleton.1 (List.mem_of_getElem? h1)
     have e2 := List.mem_singleton.1 (List.mem_of_getElem? h2)
     subst e1 e2
     exact ⟨mem.own_chg (mem.own_base HOC.out (HL9.out.chg.size)) CL (hout _ _ _ wc HWL.out HOC.out), HA.out.2.2.2.2.2⟩
 · intro i r j q ob' bx' v' h1 h2 h3 b hb hb2
   rw [List.getElem?_append] at h1
   split at h1
   · exact HL9.out.rvd i r j q ob' bx' v' h1 h2 h3 b hb hb2
   · have e2 := List.mem_singleton.1 (List.mem_of_getElem? h1)
     subst e2
     have h4 := hrv b hb
     have h5 := hlt j q ob' bx' v' h2 h3 b hb2
     omega
 · intro i r h1 b hb hb2
   rw [List.getElem?_append] at h1
   split at h1
   · exact HL9.out.rsv i r h1 b hb hb2
   · have e2 := List.mem_singleton.1 (List.mem_of_getElem? h1)
     subst e2
     have h4 := hrv b hb
     have h5 := (World.ownsRow.lt HL9.out.mem.row b hb2).2
     omega
theorem set_same {α : Type} (f : α -> List Value) {l : List α} {k : Nat} {x y : α} (h : l[k]? = some x) (he : f y = f x) : (l.set k y).flatMap f = l.flatMap f := by
 rw [List.flatMap_def, List.flatMap_def, List.map_set, he]
 congr 1
 have h1 : (l.map f)[k]? = some (f x) := by rw [List.getElem?_map, h]; rfl
 obtain ⟨h2, h3⟩ := List.getElem?_eq_some_iff.1 h1
 rw [<- h3, List.set_getElem_self]
theorem get_set {α : Type} {l : List α} {k j : Nat} {x y : α} (h : (l.set k y)[j]? = some x) : (j = k /\ x = y) \/ (j ≠ k /\ l[j]? = some x) := by
 rw [List.getElem?_set] at h
 split at h
 · rename_i e
   split at h
   · exact .inl ⟨e.symm, by injection h with h; exact h.symm⟩
   · cases h
 · rename_i e
   exact .inr ⟨fun he => e he.symm, h⟩
structure TyOK (T : TypeId) : Prop where
 proc : T ≠ 71
 op : T ≠ 102
 loom : T ≠ 59
 call : T ≠ 45
 word : T ≠ 22
section
variable {kk : Nat} {T : TypeId} {W V V' : World} {o : ObV} {L : Lo} {z : LV}
theorem LoomAt.step (h : LoomAt kk T W V o L z) (t : TyOK T) {k : Nat} {m : PM} {x : PV} {ob bx : Nat} {v : Value} {c c' : Core} {r r' ws' : List Int} (hm : L.ps[k]? = some m) (hx : z.xs[k]? = some x) (he : x.op = some (ob, bx, v)) (hmo : m.o = some (c, r))
 (hst : St T bx z.mb z.sv V v V' c' r' ws' (z.nm + 1)) (hlen : ws'.length = L.ws.length) :
 ∃ v', LoomAt kk T W V' o { L with ws := ws', ps := L.ps.set k { m with o := some (c', r') } } { z with nm := z.nm + 1, xs := z.xs.set k { x with op := some (ob, bx, v') } } /\ (z.xs.set k { x with op := some (ob, bx, v') })[k]? = some { x with op := some (ob, bx, v') } := by
 obtain ⟨v', hp', hev⟩ := hst
 have hopk := h.op k m x hm hx
 rw [he, hmo] at hopk
 obtain ⟨hob, hp⟩ := hopk
 have hcs := hev.chg
 obtain ⟨S, hS⟩ : ∃ S, bx :: z.mb :: (z.sv.ownBlock.toList ++ v.ownBlock.toList) = S := ⟨_, rfl⟩
 rw [hS] at hcs
 have nin : ∀ y, y ≠ bx -> y ≠ z.mb -> z.sv.ownBlock ≠ some y -> v.ownBlock ≠ some y -> y ∉ S := fun y h1 h2 h3 h4 hm => by
  rw [<- hS] at hm
  simp only [List.mem_cons, List.mem_append, Option.mem_toList] at hm
  rcases hm with h5 | h5 | h5 | h5
  · exact h1 h5
  · exact h2 h5
  · exact h3 h5
  · exact h4 h5
 obtain ⟨b1, b2, b3, b4⟩ := h.ne_box t.loom
 obtain ⟨c1, c2, c3⟩ := b3 k m x ob bx v hm hx he
 have hvlt : ∀ y, v.ownBlock = some y -> y < V.heap.size := fun y hy => (World.ownsRow.lt hp.row y hy).2
 have hlt : ∀ (i : Nat) m x ob bx v, L.ps[i]? = some m -> z.xs[i]? = some x -> x.op = some (ob, bx, v) -> ∀ y, v.ownBlock = some y -> y < V.heap.size := fun i m x ob bx v hm hx he y hy => by
  have hop := h.op i m x hm hx
  rw [he] at hop
  match hmo : m.o, hop with
  | none, hop => exact (show False from hop).elim
  | some (c1, r1), hop => exact (World.ownsRow.lt hop.2.row y hy).2
 have hpi : ∀ (i : Nat) y, z.xs[i]? = some y -> ∃ q, L.ps[i]? = some q := fun i y hy => ⟨_, List.getElem?_eq_getElem (by rw [<- h.xlen]; exact (List.getElem?_eq_some_iff.1 hy).1)⟩
 have hrow : ∀ {T0 : TypeId} {s n : Nat} {v0 : Value} {xs0 : List Value} {B0 : Nat} (hr : V.ownsRow B0 T0 s v0 n xs0), T0 ≠ 59 -> T0 ≠ 86 -> T0 ≠ 22 -> T0 ≠ 102 -> T0 ≠ T -> ∀ y, v0.ownBlock = some y -> y ∉ S := fun hr t1 t2 t3 t4 t5 y hy => by
  obtain ⟨n1, n2, n3, n4, n5⟩ := h.ne_row hr hy t1 t2 t3 t4 t5
  obtain ⟨m1, m2, m3⟩ := n4 k m x ob bx v hm hx he
  exact nin y (fun e => m2 e.symm) n2 (fun e => n3 y e rfl) (fun e => m3 y e rfl)
 refine ⟨v', ⟨?_, ?_, ?_, ?_, h.rlen, hp'.mem, ?_, ?_, ?_, ?_, ?_, h.rsv, ?_, ?_⟩, ?_⟩
 · have hb := h.box.keep hcs (nin _ (fun e => c2 e.symm) (fun e => b1 e.symm) (fun e => b2 _ e rfl) (fun e => c3 _ e rfl))
   show Blk V' z.lb (loomCells o z.mb (.slice z.pa (L.ps.set k _).length z.pc) _ _) _
   rw [List.length_set]
   exact hb
 · have h1 := mem.own_chg h.procs hcs (hrow h.procs (by decide) (by decide) (by decide) (by decide) (fun e => t.proc e.symm))
   show V'.ownsRow _ _ 3 (.slice z.pa (L.ps.set k _).length z.pc) (L.ps.set k _).length (rows (z.xs.set k _) (L.ps.set k _))
   have e2 : rows (z.xs.set k { x with op := some (ob, bx, v') }) (L.ps.set k { m with o := some (c', r') }) = rows z.xs L.ps := by
    unfold rows
    rw [<- zip_set]
    refine set_same PV.enc (zip_get hx hm) ?_
    unfold PV.enc PV.cells PV.opv
    simp only [he]
   rw [e2, List.length_set]
   exact h1
 · exact mem.own_chg h.calls hcs (hrow h.calls (by decide) (by decide) (by decide) (by decide) (fun e => t.call e.symm))
 · show (z.xs.set k _).length = (L.ps.set k _).length
   rw [List.length_set, List.length_set, h.xlen]
 · intro i mi xi h1 h2
   rcases get_set h1 with ⟨rfl, rfl⟩ | ⟨e1, h1⟩
   · rcases get_set h2 with ⟨_, rfl⟩ | ⟨e2, h2⟩
     · exact h.left _ m x hm hx
     · exact (e2 rfl).elim
   · rcases get_set h2 with ⟨e2, _⟩ | ⟨_, h2⟩
     · exact (e1 e2).elim
     · exact h.left i mi xi h1 h2
 · intro i mi xi h1 h2
   rcases get_set h1 with ⟨rfl, rfl⟩ | ⟨e1, h1⟩
   · rcases get_set h2 with ⟨_, rfl⟩ | ⟨e2, h2⟩
     · exact ⟨hob.keep hcs (nin _ (blk_ne hob hp.box (fun e => t.op e.symm)) (blk_ne hob hp.mem.box (by decide)) (fun e => own_type hp.mem.row hob (by decide) _ e rfl) (fun e => own_type hp.row hob (by decide) _ e rfl)), hp'⟩
     · exact (e2 rfl).elim
   · rcases get_set h2 with ⟨e2, _⟩ | ⟨_, h2⟩
     · exact (e1 e2).elim
     · have hop := h.op i mi xi h1 h2
       match hmo2 : mi.o, hxo2 : xi.op, hop with
       | none, none, _ => trivial
       | some (ci, ri), some (obi, bxi, vi), hop =>
        obtain ⟨k1, k2⟩ := hop
        obtain ⟨a1, a2, a3⟩ := h.apart i k xi x e1 h2 hx obi bxi vi ob bx v hxo2 he
        refine ⟨k1.keep hcs (nin _ (blk_ne k1 hp.box (fun e => t.op e.symm)) (blk_ne k1 hp.mem.box (by decide)) (fun e => own_type hp.mem.row k1 (by decide) _ e rfl) (fun e => own_type hp.row k1 (by decide) _ e rfl)), ⟨k2.box.keep hcs (nin _ a2 k2.ne (fun e => k2.ns _ e rfl) (fun e => own_type hp.row k2.box (fun e => t.word e.symm) _ e rfl)), mem.own_chg k2.row hcs (fun y hy => nin y (fun e => own_type k2.row hp.box (fun e => t.word e.symm) _ hy e) (k2.nv y hy).2.1 (k2.nv y hy).2.2 (fun e => a3 y hy e)), k2.wf, k2.short, hp'.mem, k2.ne, k2.ns, k2.nv⟩⟩
       | none, some _, hop => exact (show False from hop).elim
       | some _, none, hop => exact (show False from hop).elim
 · intro i ci ri h1 h2
   have h3 := h.recs i ci ri h1 h2
   exact ⟨mem.own_chg h3.1 hcs (fun y hy => nin y (fun e => own_type h3.1 hp.box (fun e => t.word e.symm) _ hy e) (fun e => own_type h3.1 hp.mem.box (by decide) _ hy e) (fun e => h.rsv i ri h2 y hy e) (fun e => h.rvd i ri k x ob bx v h2 hx he y hy e)), h3.2⟩
 · intro i j xi xj hij h1 h2
   rcases get_set h1 with ⟨rfl, rfl⟩ | ⟨e1, h1⟩
   · rcases get_set h2 with ⟨e2, _⟩ | ⟨e2, h2⟩
     · exact (hij e2.symm).elim
     · intro ob1 bx1 v1 ob2 bx2 v2 e3 e4
       cases e3
       obtain ⟨a1, a2, a3⟩ := h.apart _ j x xj hij hx h2 ob bx v ob2 bx2 v2 he e4
       obtain ⟨q, hq⟩ := hpi j xj h2
       refine ⟨a1, a2, fun y hy hy2 => ?_⟩
       rcases hev.own y hy with h5 | h5
       · exact a3 y h5 hy2
       · have := hlt j q xj ob2 bx2 v2 hq h2 e4 y hy2; omega
   · have h9 := h1
     rcases get_set h2 with ⟨rfl, rfl⟩ | ⟨e2, h2⟩
     · intro ob1 bx1 v1 ob2 bx2 v2 e3 e4
       cases e4
       obtain ⟨a1, a2, a3⟩ := h.apart i _ xi x hij h9 hx ob1 bx1 v1 ob bx v e3 he
       obtain ⟨q, hq⟩ := hpi i xi h9
       refine ⟨a1, a2, fun y hy hy2 => ?_⟩
       rcases hev.own y hy2 with h5 | h5
       · exact a3 y hy h5
       · have := hlt i q xi ob1 bx1 v1 hq h9 e3 y hy; omega
     · exact h.apart i j xi xj hij h9 h2
 · intro i ri j xj ob1 bx1 v1 h1 h2 h3 b hb hb2
   rcases get_set h2 with ⟨rfl, rfl⟩ | ⟨e2, h2⟩
   · cases h3
     rcases hev.own b hb2 with h5 | h5
     · exact h.rvd i ri _ x ob bx v h1 hx he b hb h5
     · have hil : i < L.cs.length := by rw [<- h.rlen]; exact (List.getElem?_eq_some_iff.1 h1).1
       have := (World.ownsRow.lt (h.recs i _ ri (List.getElem?_eq_getElem hil) h1).1 b hb).2
       omega
   · exact h.rvd i ri j xj ob1 bx1 v1 h1 h2 h3 b hb hb2
 · refine ⟨h.low.1, h.low.2.1, h.low.2.2.1, fun i xi h1 b hb => ?_⟩
   rcases get_set h1 with ⟨rfl, rfl⟩ | ⟨e1, h1⟩
   · have hl := h.low.2.2.2 _ x hx
     have hs := h.chg.size
     simp only [PV.bs, he, List.mem_cons, Option.mem_toList] at hl hb
     rcases hb with hb | hb | hb
     · exact hl b (.inl hb)
     · exact hl b (.inr (.inl hb))
     · rcases hev.own b hb with h5 | h5
       · exact hl b (.inr (.inr h5))
       · omega
   · exact h.low.2.2.2 i xi h1 b hb
 · refine h.chg.into hcs (fun y hy => .inr ?_)
   rw [<- hS] at hy
   have hl := h.low.2.2.2 _ x hx
   simp only [PV.bs, he, List.mem_cons, Option.mem_toList] at hl
   simp only [List.mem_cons, List.mem_append, Option.mem_toList] at hy
   rcases hy with h5 | h5 | h5 | h5
   · exact hl y (.inr (.inl h5))
   · rw [h5]; exact h.low.2.1
   · exact h.low.2.2.1 y h5
   · exact hl y (.inr (.inr h5))
 · rw [List.getElem?_set, if_pos rfl, if_pos (List.getElem?_eq_some_iff.1 hx).1]
end
def TdOK (w0 r0 : Int) (o : ObV) (k : Nat) (t : Td) : Prop := (t.op = w0 /\ k = 0 /\ (t.wds.length : Int) = o.w) \/ (t.op = r0 /\ 0 < k /\ k <= o.rl /\ t.wds = [])
def FrOK (w0 r0 : Int) (K : Kind) (o : ObV) : Prop := ∀ (op rd : Int) (wds : List Int), ((op = w0 /\ rd = 0 /\ (wds.length : Int) = o.w) \/ (op = r0 /\ 0 <= rd /\ rd < o.rl /\ wds = [])) -> K.Shape (frO o op rd) wds
structure WF (kk : Nat) (w0 r0 : Int) (K : Kind) (o : ObV) (L : Lo) : Prop where
 right : RightO kk o
 fr : FrOK w0 r0 K o
 size : (L.ws.length : Int) = rop.sizeI o.k o.w o.s o.c o.st o.il o.rl
 td : ∀ (k : Nat) m, L.ps[k]? = some m -> ∀ t ∈ m.left, TdOK w0 r0 o k t
 op : ∀ (k : Nat) m c r, L.ps[k]? = some m -> m.o = some (c, r) -> K.Shape c r /\ (0 <= c.steps /\ c.steps <= L.now) /\ c.base = 0 /\ c.size = L.ws.length /\ m.call < L.cs.length
 cs : L.cs.length <= L.now
 ps : L.ps.length <= 1000
theorem TdOK.fr {w0 r0 : Int} {o : ObV} {k : Nat} {t : Td} (h : TdOK w0 r0 o k t) : (t.op = w0 /\ max ((k : Int) - 1) 0 = 0 /\ (t.wds.length : Int) = o.w) \/ (t.op = r0 /\ 0 <= max ((k : Int) - 1) 0 /\ max ((k : Int) - 1) 0 < o.rl /\ t.wds = []) := by
 rcases h with ⟨e1, e2, e3⟩ | ⟨e1, e2, e3, e4⟩
 · exact .inl ⟨e1, by omega, e3⟩
 · exact .inr ⟨e1, by omega, by omega, e4⟩
theorem TdOK.short {w0 r0 : Int} {o : ObV} {k : Nat} {t : Td} {kk : Int} (h : TdOK w0 r0 o k t) (hr : RightO kk o) : t.wds.length <= 1000 := by
 have := rightB_bd hr.2.2
 rcases h with ⟨e1, e2, e3⟩ | ⟨e1, e2, e3, e4⟩
 · omega
 · rw [e4]; simp
section
variable {kk : Nat} {w0 r0 : Int} {K : Kind} {o : ObV} {L : Lo}
structure WB (kk : Nat) (w0 r0 : Int) (K : Kind) (o : ObV) (L : Lo) (k : Nat) (p : PM) (cs : List Cl) : Prop where
 left : ∀ t ∈ p.left, TdOK w0 r0 o k t
 op : ∃ c r, p.o = some (c, r) /\ c.over = false /\ K.Shape c r /\ (0 <= c.steps /\ c.steps <= L.now) /\ c.base = 0 /\ c.size = L.ws.length /\ p.call < cs.length
 len : cs.length <= L.now + 1
 more : L.cs.length <= cs.length
theorem beginM_wb (h : WF kk w0 r0 K o L) {k : Nat} {p p' : PM} {cs : List Cl} (hp : L.ps[k]? = some p) (hb : beginM (frO o) k L p = some (p', cs)) (hov : ∀ op rd, (frO o op rd).over = false) : WB kk w0 r0 K o L k p' cs := by
 unfold beginM at hb
 split at hb
 · rename_i ho
   injection hb with hb
   injection hb with h1 h2
   subst h1 h2
   unfold PM.over at ho
   match hmo : p.o, ho with
   | none, ho => cases ho
   | some (c, r), ho =>
    have h1 := h.op k p c r hp hmo
    exact ⟨h.td k p hp, ⟨c, r, hmo, ho, h1⟩, by have := h.cs; omega, Nat.le_refl _⟩
 · match hl : p.left, hb with
   | [], hb => cases hb
   | t :: l, hb =>
    injection hb with hb
    injection hb with h1 h2
    subst h1 h2
    have ht := h.td k p hp t (by rw [hl]; simp)
    refine ⟨fun u hu => h.td k p hp u (by rw [hl]; exact List.mem_cons_of_mem _ hu), ⟨_, _, rfl, hov _ _, h.fr _ _ _ ht.fr, ⟨Int.le_refl _, Int.natCast_nonneg _⟩, rfl, h.size.symm, by simp⟩, by have := h.cs; simp; omega, by simp⟩
theorem stepM_wf (h : WF kk w0 r0 K o L) {k : Nat} {p p' : PM} {cs : List Cl} (mv : Value) (hp : L.ps[k]? = some p) (hb : WB kk w0 r0 K o L k p' cs) (hws : ∀ z ∈ L.ws, 0 <= z /\ z <= 4294967295) : WF kk w0 r0 K o (stepM K mv k L p' cs) := by
 obtain ⟨c, r, ho, hov, hs, ⟨s0, s1⟩, hb0, hsz, hcl⟩ := hb.op
 obtain ⟨k1, k2, k3, k4, k5, k6⟩ := K.ok mv hs hov hws
 have hlen := K.len c mv r L.ws
 unfold stepM
 rw [ho]
 have hcl2 : (if (K.step c mv r L.ws).1.over = true then cs.modify p'.call (endC k L.now (K.step c mv r L.ws).1 (K.step c mv r L.ws).2.1) else cs).length = cs.length := by split <;> simp
 refine ⟨h.right, h.fr, by show ((K.step c mv r L.ws).2.2.length : Int) = _; rw [hlen]; exact h.size, fun j m hm => ?_, fun j m c1 r1 hm hmo => ?_, by show List.length _ <= L.now + 1; rw [hcl2]; exact hb.len, by show (L.ps.set k _).length <= 1000; rw [List.length_set]; exact h.ps⟩
 · rcases get_set hm with ⟨rfl, rfl⟩ | ⟨e1, h1⟩
   · exact hb.left
   · exact h.td j m h1
 · show K.Shape c1 r1 /\ (0 <= c1.steps /\ c1.steps <= ((L.now + 1 : Nat) : Int)) /\ c1.base = 0 /\ c1.size = ((K.step c mv r L.ws).2.2.length : Int) /\ m.call < List.length _
   rw [hcl2, hlen]
   rcases get_set hm with ⟨rfl, rfl⟩ | ⟨e1, h1⟩
   · injection hmo with hmo
     injection hmo with e1 e2
     subst e1 e2
     exact ⟨k1, by omega, k5.trans hb0, k6.trans hsz, hcl⟩
   · obtain ⟨a1, ⟨a2, a3⟩, a4, a5, a6⟩ := h.op j m c1 r1 h1 hmo
     exact ⟨a1, by omega, a4, a5, Nat.lt_of_lt_of_le a6 hb.more⟩
end
theorem frO_over (o : ObV) (op rd : Int) : (frO o op rd).over = false := rfl
theorem set_self {α : Type} {l : List α} {k : Nat} {x : α} (h : l[k]? = some x) : l.set k x = l := by
 obtain ⟨h2, h3⟩ := List.getElem?_eq_some_iff.1 h
 rw [<- h3, List.set_getElem_self]
theorem begin_any {kk : Nat} {T : TypeId} {w0 r0 : Int} {K : Kind} (H : Ops kk K T frO (RightO kk) w0 r0) (t : TyOK T) {W V : World} {o : ObV} {L : Lo} {z : LV} (h : LoomAt kk T W V o L z) (hw : WF kk w0 r0 K o L) (hn : L.now <= 50000) {k : Nat} {m : PM} (hm : L.ps[k]? = some m) :
 Calls Tryz.prog 37 #[.pointer (some ⟨z.lb, 0, none⟩), .int .i64 (k : Int)] V fun e V' => (beginM (frO o) k L m = none /\ e = .returned (.bool false) /\ Chg [] V V') \/ (∃ p cs z', beginM (frO o) k L m = some (p, cs) /\ e = .returned (.bool true) /\ LoomAt kk T W V' o { L with ps := L.ps.set k p, cs := cs } z' /\ z'.lb = z.lb /\ z'.mb = z.mb /\ z'.sv = z.sv /\ z'.nm = z.nm) := by
 by_cases hov : m.over = false
 · refine (begin_idle H h hm (.inl hov)).mono ?_
   rintro e V' ⟨rfl, hc⟩
   refine .inr ⟨m, L.cs, z, by unfold beginM; rw [if_pos hov], by rw [hov]; rfl, ?_, rfl, rfl, rfl, rfl⟩
   rw [set_self hm]
   exact h.fresh hc
 · have hov' : m.over = true := by simpa using hov
   match hl : m.left with
   | [] =>
    refine (begin_idle H h hm (.inr hl)).mono ?_
    rintro e V' ⟨rfl, hc⟩
    exact .inl ⟨by unfold beginM; rw [if_neg hov, hl], by rw [hov']; rfl, hc⟩
   | u :: l =>
    have hu := hw.td k m hm u (by rw [hl]; simp)
    refine (begin_new H ⟨⟨t.proc, t.op⟩, t.loom, t.call⟩ h hm hov' hl hw.right hu (by have := hw.cs; omega) (by have := (List.getElem?_eq_some_iff.1 hm).1; have := hw.ps; omega) (hu.short hw.right)).mono ?_
    rintro e V' ⟨rfl, z', hz, e1, e2, e3⟩
    exact .inr ⟨_, _, z', by unfold beginM; rw [if_neg hov, hl], rfl, hz, e1, e2, e3⟩
set_option maxHeartbeats 2000000 in
theorem turn_neg {kk : Nat} {T : TypeId} {W V : World} {o : ObV} {L : Lo} {z : LV} (h : LoomAt kk T W V o L z) {k : Int} (hk : k < 0) :
 Calls Tryz.prog 22 #[.pointer (some ⟨z.lb, 0, none⟩), .int .i64 k] V fun e V' => e = .returned (.bool false) /\ Chg [] V V' := by
 go_enter Tryz.func22, Tryz.ntmps22
 go_wp2
 go_ret
 exact ⟨by simp, Chg.refl _ _⟩
set_option maxHeartbeats 2000000 in
theorem turn_far {kk : Nat} {T : TypeId} {W V : World} {o : ObV} {L : Lo} {z : LV} (h : LoomAt kk T W V o L z) {k : Int} (hk : (L.ps.length : Int) <= k) :
 Calls Tryz.prog 22 #[.pointer (some ⟨z.lb, 0, none⟩), .int .i64 k] V fun e V' => e = .returned (.bool false) /\ Chg [] V V' := by
 have c9 : V.cell? ⟨z.lb, 9, none⟩ = some (.slice z.pa L.ps.length z.pc) := h.box.cell rfl
 have hk0 : ¬ k < 0 := by omega
 clear h
 go_enter Tryz.func22, Tryz.ntmps22
 go_wp2
 go_ret
 exact ⟨by simp, Chg.refl _ _⟩
set_option maxHeartbeats 2000000 in
theorem turn_none {kk : Nat} {T : TypeId} {w0 r0 : Int} {K : Kind} (H : Ops kk K T frO (RightO kk) w0 r0) (t : TyOK T) {W V : World} {o : ObV} {L : Lo} {z : LV} (h : LoomAt kk T W V o L z) (hw : WF kk w0 r0 K o L) (hn : L.now <= 50000) {k : Nat} {m : PM} (hm : L.ps[k]? = some m) (hb : beginM (frO o) k L m = none) :
 Calls Tryz.prog 22 #[.pointer (some ⟨z.lb, 0, none⟩), .int .i64 (k : Int)] V fun e V' => e = .returned (.bool false) /\ Chg [] V V' := by
 have c9 : V.cell? ⟨z.lb, 9, none⟩ = some (.slice z.pa L.ps.length z.pc) := h.box.cell rfl
 have hk0 : ¬ (k : Int) < 0 := by omega
 have hk1 : ¬ (L.ps.length : Int) <= (k : Int) := by have := (List.getElem?_eq_some_iff.1 hm).1; omega
 have HB : Hid (Calls Tryz.prog 37 #[.pointer (some ⟨z.lb, 0, none⟩), .int .i64 (k : Int)] V fun e V' => e = .returned (.bool false) /\ Chg [] V V') := hid ((begin_any H t h hw hn hm).mono (by
  rintro e V' (⟨-, h1, h2⟩ | ⟨p, cs, z', h1, _⟩)
  · exact ⟨h1, h2⟩
  · rw [hb] at h1; cases h1))
 clear h hm hb
 go_enter Tryz.func22, Tryz.ntmps22
 go_wp2_with (go_at_call 37; refine HB.out.mono ?_; rintro e w1 ⟨rfl, hc1⟩)
 go_ret
 exact ⟨by simp, hc1⟩
theorem opens_wf {c : Core} {l : Nat} (h0 : c.base = 0) (h1 : c.size = l) (h2 : c.over = false) : opens c l = true := by
 rw [opens_iff (by omega) (by omega) (by omega), h2]; rfl
theorem LoomAt.opOf {kk : Nat} {T : TypeId} {W V : World} {o : ObV} {L : Lo} {z : LV} (h : LoomAt kk T W V o L z) {k : Nat} {m : PM} (hm : L.ps[k]? = some m) {c : Core} {r : List Int} (hmo : m.o = some (c, r)) :
 ∃ x ob bx v, z.xs[k]? = some x /\ x.op = some (ob, bx, v) /\ x.opv = .pointer (some ⟨ob, 0, none⟩) /\ Blk V ob (opCells kk bx) 102 /\ Pair T bx z.mb z.sv V c v r L.ws z.nm := by
 obtain ⟨x, hx⟩ := h.pv (List.getElem?_eq_some_iff.1 hm).1
 have hop := h.op k m x hm hx
 rw [hmo] at hop
 obtain ⟨lv, op⟩ := x
 match op, hop with
 | none, hop => exact (show False from hop).elim
 | some (ob, bx, v), hop => exact ⟨_, ob, bx, v, hx, rfl, rfl, hop.1, hop.2⟩
theorem LoomAt.zero {kk : Nat} {T : TypeId} {W V : World} {o : ObV} {L : Lo} {z : LV} (h : LoomAt kk T W V o L z) (hW : 0 < W.heap.size) {k : Nat} {x : PV} (hx : z.xs[k]? = some x) {ob bx : Nat} {v : Value} (he : x.op = some (ob, bx, v)) : 0 ∉ bx :: z.mb :: (z.sv.ownBlock.toList ++ v.ownBlock.toList) := by
 have hl := h.low.2.2.2 _ x hx
 simp only [PV.bs, he, List.mem_cons, Option.mem_toList] at hl
 intro hm
 simp only [List.mem_cons, List.mem_append, Option.mem_toList] at hm
 rcases hm with h5 | h5 | h5 | h5
 · have := hl 0 (.inr (.inl h5)); omega
 · have := h.low.2.1; omega
 · have := h.low.2.2.1 0 h5; omega
 · have := hl 0 (.inr (.inr h5)); omega
theorem LoomAt.tick {kk : Nat} {T : TypeId} {W V : World} {o : ObV} {L : Lo} {z : LV} (h : LoomAt kk T W V o L z) (t : TyOK T) : LoomAt kk T W (V.setCell ⟨z.lb, 11, none⟩ (.int .i64 ((L.now : Int) + 1))) o { L with now := L.now + 1 } z := by
 have hc : Chg [z.lb] V (V.setCell ⟨z.lb, 11, none⟩ (.int .i64 ((L.now : Int) + 1))) := (Chg.refl [z.lb] V).setCell (.inl (by simp)) _
 obtain ⟨b1, b2, b3, b4⟩ := h.ne_box t.loom
 exact h.setCalls ⟨t.loom, t.call⟩ (hc.mono (by simp)) z.ca z.cc L.cs z.rvs (L.now + 1) (h.box.set 11 _) (mem.own_chg h.calls hc (fun y hy hm => own_type h.calls h.box (by decide) y hy (List.mem_singleton.1 hm))) h.rlen (fun i cl r h1 h2 => ⟨mem.own_chg (h.recs i cl r h1 h2).1 hc (fun y hy hm => b4 i cl r h1 h2 y hy (List.mem_singleton.1 hm)), (h.recs i cl r h1 h2).2⟩) h.rvd h.rsv
theorem LoomAt.caddr {kk : Nat} {T : TypeId} {W V : World} {o : ObV} {L : Lo} {z : LV} (h : LoomAt kk T W V o L z) (hn : 0 < L.cs.length) : ∃ g, z.ca = some ⟨g, 0, none⟩ := by
 rcases h.calls.2 with ⟨h1, h0⟩ | ⟨g, cap, cur, hv, hB, hg, h4⟩
 · omega
 · simp only [Value.slice.injEq] at hv
   exact ⟨g, hv.1⟩
theorem cvs_set (c : Cl) (r : Value) : ∀ (cs : List Cl) (rs : List Value) (k : Nat), (cvs cs rs).set k (c.cv r) = cvs (cs.set k c) (rs.set k r)
 | [], rs, k => by simp [cvs]
 | y :: cs, [], k => by cases k <;> simp [cvs]
 | y :: cs, b :: rs, 0 => rfl
 | y :: cs, b :: rs, k + 1 => by
  have := cvs_set c r cs rs k
  unfold cvs at this ⊢
  simp only [List.set_cons_succ, List.zipWith_cons_cons, this]
theorem modify_set {l : List Cl} {i : Nat} {c : Cl} (h : l[i]? = some c) (f : Cl -> Cl) : l.modify i f = l.set i (f c) := by
 apply List.ext_getElem?
 intro j
 have hi := (List.getElem?_eq_some_iff.1 h).1
 rw [List.getElem?_modify, List.getElem?_set]
 by_cases e : i = j
 · subst e
   rw [if_pos rfl, if_pos hi, h]
   simp
 · rw [if_neg e]
   simp [e]
theorem LoomAt.endCall {kk : Nat} {T : TypeId} {W V V' : World} {o : ObV} {L : Lo} {z : LV} (h : LoomAt kk T W V o L z) (t : TyOK T) {i : Nat} {gc : Nat} (hgc : z.ca = some ⟨gc, 0, none⟩) (hc : Chg [gc] V V') (cl' : Cl) (r' : Value)
 (hrow : V'.ownsRow W.heap.size 45 7 (.slice z.ca L.cs.length z.cc) L.cs.length ((cvs (L.cs.set i cl') (z.rvs.set i r')).flatMap CV.cells)) (ho : OwnW V' W.heap.size r' cl'.wds /\ ∀ u ∈ cl'.wds, (Lit.int .u32 u).wf = true)
 (hx : ∀ (k : Nat) x ob bx v, z.xs[k]? = some x -> x.op = some (ob, bx, v) -> ∀ b, r'.ownBlock = some b -> v.ownBlock ≠ some b) (hs : ∀ b, r'.ownBlock = some b -> z.sv.ownBlock ≠ some b) :
 LoomAt kk T W V' o { L with cs := L.cs.set i cl' } { z with rvs := z.rvs.set i r' } := by
 have hown : (Value.slice z.ca L.cs.length z.cc).ownBlock = some gc := by rw [hgc]; rfl
 obtain ⟨n1, n2, n3, n4, n5⟩ := h.ne_row h.calls hown (by decide) (by decide) (by decide) (by decide) (fun e => t.call e.symm)
 have hcb : Chg (z.lb :: (Value.slice z.ca L.cs.length z.cc).ownBlock.toList) V V' := hc.mono (fun y hy => by rw [List.mem_singleton.1 hy, hown]; simp)
 refine h.setCalls ⟨t.loom, t.call⟩ hcb z.ca z.cc (L.cs.set i cl') (z.rvs.set i r') L.now ?_ ?_ (by rw [List.length_set, List.length_set, h.rlen]) ?_ ?_ ?_
 · rw [List.length_set]
   exact h.box.keep hc (fun hm => n1 (List.mem_singleton.1 hm).symm)
 · rw [List.length_set]
   exact hrow
 · intro j c r h1 h2
   rcases get_set h1 with ⟨rfl, rfl⟩ | ⟨e1, h1⟩
   · rcases get_set h2 with ⟨_, rfl⟩ | ⟨e2, h2⟩
     · exact ho
     · exact (e2 rfl).elim
   · rcases get_set h2 with ⟨e2, _⟩ | ⟨_, h2⟩
     · exact (e1 e2).elim
     · have h3 := h.recs j c r h1 h2
       exact ⟨mem.own_chg h3.1 hc (fun y hy hm => n5 j c r h1 h2 y hy (List.mem_singleton.1 hm)), h3.2⟩
 · intro j r k x ob bx v h1 h2 h3
   rcases get_set h1 with ⟨rfl, rfl⟩ | ⟨e1, h1⟩
   · exact hx k x ob bx v h2 h3
   · exact h.rvd j r k x ob bx v h1 h2 h3
 · intro j r h1
   rcases get_set h1 with ⟨rfl, rfl⟩ | ⟨e1, h1⟩
   · exact hs
   · exact h.rsv j r h1
set_option maxHeartbeats 8000000 in
theorem turn_some {kk : Nat} {T : TypeId} {w0 r0 : Int} {K_ : Kind} (H : Ops kk K_ T frO (RightO kk) w0 r0) (t : TyOK T) {W V : World} {o : ObV} {L : Lo} {z : LV} (h : LoomAt kk T W V o L z) (ht : bitm.Tab W) (hw : WF kk w0 r0 K_ o L) (hn : L.now <= 50000) (hnm : 0 <= z.nm /\ z.nm <= 100000) {k : Nat} {m : PM} (hm : L.ps[k]? = some m) {p : PM} {cs : List Cl} (hb : beginM (frO o) k L m = some (p, cs)) :
 Calls Tryz.prog 22 #[.pointer (some ⟨z.lb, 0, none⟩), .int .i64 (k : Int)] V fun e V' => e = .returned (.bool true) /\ ∃ z', LoomAt kk T W V' o (stepM K_ (.pointer (some ⟨z.mb, 0, none⟩)) k L p cs) z' /\ z'.lb = z.lb /\ z'.mb = z.mb /\ z'.sv = z.sv /\ z'.nm = z.nm + 1 := by
 have c9 : V.cell? ⟨z.lb, 9, none⟩ = some (.slice z.pa L.ps.length z.pc) := h.box.cell rfl
 have hkl := (List.getElem?_eq_some_iff.1 hm).1
 have hk0 : ¬ (k : Int) < 0 := by omega
 have hk1 : ¬ (L.ps.length : Int) <= (k : Int) := by omega
 have hwb := beginM_wb hw hm hb (frO_over o)
 obtain ⟨c, r, hpo, hov, hsh, ⟨s0, s1⟩, hb0, hsz, hcl⟩ := hwb.op
 have HB : Hid (Calls Tryz.prog 37 #[.pointer (some ⟨z.lb, 0, none⟩), .int .i64 (k : Int)] V fun e V' => e = .returned (.bool true) /\ ∃ z', LoomAt kk T W V' o { L with ps := L.ps.set k p, cs := cs } z' /\ z'.lb = z.lb /\ z'.mb = z.mb /\ z'.sv = z.sv /\ z'.nm = z.nm) := hid ((begin_any H t h hw hn hm).mono (by
  rintro e V' (⟨h1, _⟩ | ⟨p1, cs1, z', h1, h2, h3, h4, h5, h6⟩)
  · rw [hb] at h1; cases h1
  · rw [hb] at h1
    injection h1 with h1
    injection h1 with e1 e2
    subst e1 e2
    exact ⟨h2, z', h3, h4, h5, h6⟩))
 have hp1 : (L.ps.set k p)[k]? = some p := by rw [List.getElem?_set, if_pos rfl, if_pos hkl]
 have HA := hid (⟨hp1, hpo, hov, hsh, And.intro s0 s1, hb0, hsz, hcl⟩ : _ /\ _ /\ _ /\ _ /\ _ /\ _ /\ _ /\ _)
 have HT := hid ht
 have HN := hid (⟨hn, hnm⟩ : _ /\ _)
 obtain ⟨n, hnl⟩ : ∃ n, L.ps.length = n := ⟨_, rfl⟩
 have HNL := hid hnl
 rw [hnl] at c9 hk1
 have HK : Hid (k < n) := hid (by omega)
 clear h hm hb hw hwb hpo hov hsh s0 s1 hb0 hsz hcl hp1 ht hn hnm hkl hnl
 go_enter Tryz.func22, Tryz.ntmps22
 go_upto_region 4 with (go_at_call 37; refine HB.out.mono ?_; rintro e w1 ⟨rfl, z1, hz1, e1, e2, e3, e4⟩; have HZ := hid hz1; have HE := hid (⟨e1, e2, e3, e4⟩ : _ /\ _ /\ _ /\ _); obtain ⟨g, hg⟩ := hz1.addr (by rw [List.length_set, HNL.out]; have := HK.out; omega); have HG := hid hg; have d9 : w1.cell? ⟨z.lb, 9, none⟩ = some (.slice (some ⟨g, 0, none⟩) n z1.pc) := (by rw [<- e1, ← hg, ← HNL.out]; have := hz1.box.cell (o := 9) rfl; rw [List.length_set] at this; exact this); have ix := index_at (size := 3) Tryz.underlying57 szProc g n z1.pc k HK.out; clear hz1 e1 e2 e3 e4 hg)
 obtain ⟨x1, ob, bx, v, hx1, hxo, hxp, hob, hpr⟩ := HZ.out.opOf HA.out.1 HA.out.2.1
 have HX := hid (⟨hx1, hxo, hxp⟩ : _ /\ _ /\ _)
 have HP := hid (⟨hob, hpr⟩ : _ /\ _)
 have hz4 : ∀ V' : World, Chg [] w1 V' -> V'.cell? ⟨g, k * 3 + 1, none⟩ = some (.pointer (some ⟨ob, 0, none⟩)) /\ V'.cell? ⟨z.lb, 8, none⟩ = some (.pointer (some ⟨z1.mb, 0, none⟩)) := fun V' hV' => by
  have h1 := ((HZ.out.fresh hV').pcell HG.out HX.out.1 HA.out.1).1.2.1
  rw [HX.out.2.2] at h1
  have h2 : V'.cell? ⟨z1.lb, 8, none⟩ = some (.pointer (some ⟨z1.mb, 0, none⟩)) := (HZ.out.fresh hV').box.cell rfl
  rw [HE.out.1] at h2
  exact ⟨h1, h2⟩
 have FA := hid hz4
 have HST := hid (fun V' (hV' : Chg [] w1 V') => H.step (W := V') (tab_keep HT.out (HZ.out.chg.trans hV') (by simp)) (HZ.out.zero HT.out.pos HX.out.1 HX.out.2.1) (HP.out.1.keep hV' (by simp)) HA.out.2.2.2.1 (by have h1 := HA.out.2.2.2.2.1; have h2 := HN.out.1; omega) (opens_wf HA.out.2.2.2.2.2.1 HA.out.2.2.2.2.2.2.1 HA.out.2.2.1) (by have h1 := HN.out.2; have h2 := HE.out.2.2.2; omega) (HP.out.2.keep hV'))
 clear hz4 hx1 hxo hxp hob hpr ix d9 c9
 have hHeld : (fun V' : World => Hid (Chg [] w1 V')) (World.drew w1) := hid (Chg.refl [] w1).drew
 refine wp_region_planT (fun V' : World => Hid (Chg [] w1 V')) 8 [(0, true, some 32), (1, true, some 33), (2, true, some 34), (3, true, some 35), (4, true, some 36), (5, true, some 37), (6, true, some 38), (7, true, some 39)] (by kernel_rfl) (by kernel_rfl) (by kernel_rfl) (by kernel_rfl) (by kernel_rfl) (fun d c a v w h => by cases d <;> exact h) hHeld ?_
 repeat (first
  | (refine planT_read (v := ?_) rfl rfl ?_ ?_ ?_; rotate_left; (focus rfl); (focus (intro u hSw; (try dsimp only at hSw); obtain ⟨e1, e2⟩ := FA.out u hSw.out; go_simp; (try with_reducible rfl))); (try simp only [Act.put, sA, sB, sC])))
 refine planT_last rfl rfl (fun K hK => ?_)
 go_simp
 go_at_call 38
 refine (HST.out _ ((Chg.refl [] w1).drew)).mono ?_
 rintro e w4 ⟨rfl, hst⟩
 obtain ⟨v', hz2, hx2⟩ := (HZ.out.fresh ((Chg.refl [] w1).drew)).step t HA.out.1 HX.out.1 HX.out.2.1 HA.out.2.1 hst (K_.len _ _ _ _)
 have hmb : z1.mb = z.mb := HE.out.2.1
 rw [hmb] at hz2
 simp only [List.set_set] at hz2
 obtain ⟨q, hq⟩ : ∃ q, K_.step c (.pointer (some ⟨z.mb, 0, none⟩)) r L.ws = q := ⟨_, rfl⟩
 rw [hq] at hz2
 have HQ := hid hq
 have hm2 : (L.ps.set k { p with o := some (q.1, q.2.1) })[k]? = some { p with o := some (q.1, q.2.1) } := by rw [List.getElem?_set, if_pos rfl, if_pos (by rw [HNL.out]; exact HK.out)]
 have HM2 := hid hm2
 have HX2 := hid hx2
 have hg4 := hz2.pcell HG.out hx2 hm2
 obtain ⟨p0, p1, p2⟩ := hg4.1
 have hxp2 : (PV.opv { x1 with op := some (ob, bx, v') }) = .pointer (some ⟨ob, 0, none⟩) := rfl
 rw [hxp2] at p1
 have hover := hz2.overs H hx2 hm2
 rw [hxp2] at hover
 have HOV : Hid (Calls Tryz.prog 39 #[.pointer (some ⟨ob, 0, none⟩)] w4 fun e W' => e = .returned (.bool q.1.over) /\ w4 = W') := hid hover
 have HZ2 := hid hz2
 refine hK.out _ _ ?_
 clear hK K hHeld hst hz2 hx2 hm2 hg4 hover hxp2 hq p0 p2
 cases hov : q.1.over
 · rw [hov] at HOV
   have hlb : z1.lb = z.lb := HE.out.1
   have d11 : w4.cell? ⟨z.lb, 11, none⟩ = some (.int .i64 (L.now : Int)) := by rw [<- hlb]; exact HZ2.out.box.cell (o := 11) rfl
   have f11 : w4.frozen? ⟨z.lb, 11, none⟩ = false := by rw [<- hlb]; exact HZ2.out.box.free 11
   have h63 : IntKind.i64.wrap ((L.now : Int) + 1) = (L.now : Int) + 1 := by rw [IntKind.wrap_i64]; have := HN.out.1; omega
   have h64 : ¬ (L.now : Int) + 1 > 9223372036854775807 := by have := HN.out.1; omega
   go_wp2_with (go_at_call 39; refine HOV.out.mono ?_; rintro e w5 ⟨rfl, rfl⟩)
   go_ret
   refine ⟨by simp, { z1 with mb := z.mb, nm := z1.nm + 1, xs := z1.xs.set k { x1 with op := some (ob, bx, v') } }, ?_, hlb, rfl, HE.out.2.2.1, by show z1.nm + 1 = z.nm + 1; rw [HE.out.2.2.2]⟩
   have h9 := HZ2.out.tick t
   rw [<- hlb]
   unfold stepM
   simp only [HA.out.2.1, HQ.out, hov]
   exact h9
 · rw [hov] at HOV
   have hlb : z1.lb = z.lb := HE.out.1
   have d10 : w4.cell? ⟨z.lb, 10, none⟩ = some (.slice z1.ca cs.length z1.cc) := by rw [<- hlb]; exact HZ2.out.box.cell (o := 10) rfl
   obtain ⟨gc, hgc⟩ := HZ2.out.caddr (Nat.lt_of_le_of_lt (Nat.zero_le _) HA.out.2.2.2.2.2.2.2)
   have HGC := hid hgc
   rw [hgc] at d10
   have p2 := (HZ2.out.pcell HG.out HX2.out HM2.out).1.2.2
   have ix2 := index_at (size := 7) Tryz.underlying34 szCall gc cs.length z1.cc p.call HA.out.2.2.2.2.2.2.2
   have hop4 := HZ2.out.op k _ _ HM2.out HX2.out
   obtain ⟨k4, k5⟩ := hop4
   have HANS := hid (fun V' (hV' : Chg [] w4 V') => H.answer (W := V') (k4.keep hV' (by simp)) (k5.keep hV') hov)
   have hz6 : ∀ V' : World, Chg [] w4 V' -> V'.cell? ⟨z.lb, 10, none⟩ = some (.slice (some ⟨gc, 0, none⟩) cs.length z1.cc) /\ V'.cell? ⟨g, k * 3 + 2, none⟩ = some (.int .i64 (p.call : Int)) := fun V' hV' => ⟨hV'.keep d10 (by simp), hV'.keep p2 (by simp)⟩
   have F6 := hid hz6
   clear k4 k5 hz6 d10 p2 hgc
   go_upto_region 6 with (go_at_call 39; refine HOV.out.mono ?_; rintro e w5 ⟨rfl, rfl⟩)
   have hHeld : (fun V' : World => Hid (Chg [] w4 V')) (World.drew w4) := hid (Chg.refl [] w4).drew
   refine wp_region_plan (fun V' : World => Hid (Chg [] w4 V')) [(0, true, some 46), (1, true, some 47), (2, true, some 48), (3, true, some 49), (4, true, some 50), (5, true, some 51), (6, true, some 52), (7, true, some 53), (8, true, some 54), (9, true, some 6)] (by kernel_rfl) (by kernel_rfl) (by kernel_rfl) (by kernel_rfl) (fun d c a v w h => by cases d <;> exact h) hHeld ?_
   repeat (first
    | (refine planWp_read (v := ?_) rfl rfl ?_ ?_ ?_; rotate_left; (focus rfl); (focus (intro u hSw; (try dsimp only at hSw); obtain ⟨e1, e2⟩ := F6.out u hSw.out; go_simp; (try with_reducible rfl))); (try simp only [Act.put, sA, sB, sC])))
   refine planWp_nil ?_
   obtain ⟨cl, hcl⟩ : ∃ cl, cs[p.call]? = some cl := ⟨_, List.getElem?_eq_getElem HA.out.2.2.2.2.2.2.2⟩
   obtain ⟨rk, hrk⟩ : ∃ rk, z1.rvs[p.call]? = some rk := ⟨_, List.getElem?_eq_getElem (by rw [show z1.rvs.length = cs.length from HZ2.out.rlen]; exact HA.out.2.2.2.2.2.2.2)⟩
   have HCL := hid (⟨hcl, hrk⟩ : _ /\ _)
   have hz7 : ∀ V' : World, Chg [] w4 V' -> ((V'.cell? ⟨gc, p.call * 7 + 3, none⟩ = some rk /\ V'.frozen? ⟨gc, p.call * 7 + 3, none⟩ = false) /\ (V'.cell? ⟨gc, p.call * 7 + 4, none⟩ = some (.int .i64 cl.code) /\ V'.frozen? ⟨gc, p.call * 7 + 4, none⟩ = false) /\ (V'.cell? ⟨gc, p.call * 7 + 6, none⟩ = some (.int .i64 cl.en) /\ V'.frozen? ⟨gc, p.call * 7 + 6, none⟩ = false)) /\ V'.cell? ⟨z.lb, 11, none⟩ = some (.int .i64 (L.now : Int)) /\ V'.frozen? ⟨z.lb, 11, none⟩ = false := fun V' hV' => by
    have hr := (HZ2.out.fresh hV').calls
    have hr2 : V'.ownsRow W.heap.size 45 7 (.slice (some ⟨gc, 0, none⟩) (cvs cs z1.rvs).length z1.cc) (cvs cs z1.rvs).length ((cvs cs z1.rvs).flatMap CV.cells) := by
     rw [cvs_len (show z1.rvs.length = cs.length from HZ2.out.rlen), ← HGC.out]
     exact hr
    have hb := (HZ2.out.fresh hV').box
    have e1 : V'.cell? ⟨z1.lb, 11, none⟩ = some (.int .i64 (L.now : Int)) := hb.cell rfl
    have e2 := hb.free 11
    rw [show z1.lb = z.lb from HE.out.1] at e1
    rw [show ({ z1 with mb := z.mb, nm := z1.nm + 1, xs := z1.xs.set k { x1 with op := some (ob, bx, v') } } : LV).lb = z.lb from HE.out.1] at e2
    exact ⟨⟨row_cell (enc := CV.cells) (sz := 7) (fun _ => rfl) hr2 p.call 3 (by decide) _ (cvs_get hcl hrk) _ rfl, row_cell (enc := CV.cells) (sz := 7) (fun _ => rfl) hr2 p.call 4 (by decide) _ (cvs_get hcl hrk) _ rfl, row_cell (enc := CV.cells) (sz := 7) (fun _ => rfl) hr2 p.call 6 (by decide) _ (cvs_get hcl hrk) _ rfl⟩, e1, e2⟩
   have F7 := hid hz7
   clear hz7 hcl hrk hHeld
   go_upto_region 8 with (go_at_call 40; refine (HANS.out _ ((Chg.refl [] w4).drew)).mono ?_; rintro e w7 ⟨ans, rfl, hro, hc7⟩; obtain ⟨aa, ac, rfl⟩ := own_open hro; have HC7 : Hid (Chg [] w4 w7) := hid (((Chg.refl [] w4).drew).trans hc7); have HRO : Hid (OwnW w7 w4.heap.size (.slice aa q.2.1.length ac) q.2.1) := hid hro; clear hro hc7)
   obtain ⟨⟨⟨a3, b3⟩, ⟨a4, b4⟩, a6, b6⟩, a11, b11⟩ := F7.out w7 HC7.out
   clear ix2
   go_upto_region 9 with fail
   have hlen : (cvs cs z1.rvs).length = cs.length := cvs_len (show z1.rvs.length = cs.length from HZ2.out.rlen)
   have hr7 : w7.ownsRow W.heap.size 45 7 (.slice (some ⟨gc, 0, none⟩) (cvs cs z1.rvs).length z1.cc) (cvs cs z1.rvs).length ((cvs cs z1.rvs).flatMap CV.cells) := by
    rw [hlen, ← HGC.out]
    exact (HZ2.out.fresh HC7.out).calls
   have hp1 := row_put (enc := CV.cells) (sz := 7) (fun _ => rfl) hr7 p.call 6 (by decide) _ (({ cl with en := (L.now : Int) } : Cl).cv rk) (cvs_get HCL.out.1 HCL.out.2) (.int .i64 (L.now : Int)) rfl
   have hp2 := row_put (enc := CV.cells) (sz := 7) (fun _ => rfl) hp1 p.call 4 (by decide) (({ cl with en := (L.now : Int) } : Cl).cv rk) (({ cl with en := (L.now : Int), code := q.1.code } : Cl).cv rk) (by rw [List.getElem?_set, if_pos rfl, if_pos (List.getElem?_eq_some_iff.1 (cvs_get HCL.out.1 HCL.out.2)).1]) (.int .i64 q.1.code) rfl
   obtain ⟨w8, hw8⟩ : ∃ w, (w7.setCell ⟨gc, p.call * 7 + 6, none⟩ (.int .i64 (L.now : Int))).setCell ⟨gc, p.call * 7 + 4, none⟩ (.int .i64 q.1.code) = w := ⟨_, rfl⟩
   have hc8 : Chg [gc] w7 w8 := by rw [<- hw8]; exact ((Chg.refl [gc] w7).setCell (.inl (by simp)) _).setCell (.inl (by simp)) _
   rw [hw8] at hp2 ⊢
   rw [List.set_set] at hp2
   have h3 := row_cell (enc := CV.cells) (sz := 7) (fun _ => rfl) hp2 p.call 3 (by decide) (({ cl with en := (L.now : Int), code := q.1.code } : Cl).cv rk) (by rw [List.getElem?_set, if_pos rfl, if_pos (List.getElem?_eq_some_iff.1 (cvs_get HCL.out.1 HCL.out.2)).1]) _ rfl
   obtain ⟨a3, b3⟩ := h3
   have HP2 := hid hp2
   have HC8 := hid hc8
   clear hp1 hp2 hr7 hc8 hw8 a4 b4 a6 b6 a11 b11
   have HLEN := hid hlen
   clear hlen
   have hend : ∀ (w9 : World) (cl' : Cl) (r' : Value), Chg [gc] w7 w9 -> cl' = endC k L.now q.1 q.2.1 cl -> w9.ownsRow W.heap.size 45 7 (.slice (some ⟨gc, 0, none⟩) ((cvs cs z1.rvs).set p.call (cl'.cv r')).length z1.cc) ((cvs cs z1.rvs).set p.call (cl'.cv r')).length (((cvs cs z1.rvs).set p.call (cl'.cv r')).flatMap CV.cells) -> (∃ B, OwnW w7 B r' cl'.wds /\ W.heap.size <= B) -> (∀ u ∈ cl'.wds, (Lit.int .u32 u).wf = true) -> (r' = rk \/ ∀ b, r'.ownBlock = some b -> w4.heap.size <= b) →
    LoomAt kk T W w9 o ⟨q.2.2, L.ps.set k { p with o := some (q.1, q.2.1) }, cs.modify p.call (endC k L.now q.1 q.2.1), L.now⟩ { z1 with mb := z.mb, nm := z1.nm + 1, xs := z1.xs.set k { x1 with op := some (ob, bx, v') }, rvs := z1.rvs.set p.call r' } := fun w9 cl' r' hc9 he hrow ho hwf hfr => by
    rw [modify_set HCL.out.1, ← he]
    obtain ⟨B, ho, hB⟩ := ho
    have h7 := HZ2.out.fresh HC7.out
    have hgc7 : (Value.slice z1.ca cs.length z1.cc).ownBlock = some gc := by rw [HGC.out]; rfl
    have hlt : ∀ (i : Nat) y ob1 bx1 v1, (z1.xs.set k { x1 with op := some (ob, bx, v') })[i]? = some y -> y.op = some (ob1, bx1, v1) -> ∀ b, v1.ownBlock = some b -> b < w4.heap.size := fun i y ob1 bx1 v1 h1 h2 b hb => by
     have hil : i < (L.ps.set k { p with o := some (q.1, q.2.1) }).length := by rw [<- show (z1.xs.set k { x1 with op := some (ob, bx, v') }).length = _ from HZ2.out.xlen]; exact (List.getElem?_eq_some_iff.1 h1).1
     have hop := HZ2.out.op i _ y (List.getElem?_eq_getElem hil) h1
     rw [h2] at hop
     match hmo : (L.ps.set k { p with o := some (q.1, q.2.1) })[i].o, hop with
     | none, hop => exact (show False from hop).elim
     | some (c1, r1), hop => exact (World.ownsRow.lt hop.2.row b hb).2
    refine h7.endCall t (i := p.call) HGC.out hc9 cl' r' ?_ ⟨mem.own_chg (mem.own_base ho hB) hc9 (fun y hy hm => own_type2 ho h7.calls (by decide) y hy (by rw [List.mem_singleton.1 hm]; exact hgc7)), hwf⟩ ?_ ?_
    · rw [List.length_set, HLEN.out, cvs_set, ← HGC.out] at hrow
      exact hrow
    · intro i y ob1 bx1 v1 h1 h2 b hb hb2
      rcases hfr with rfl | hfr
      · exact h7.rvd p.call _ i y ob1 bx1 v1 HCL.out.2 h1 h2 b hb hb2
      · have := hlt i y ob1 bx1 v1 h1 h2 b hb2
        have := hfr b hb
        omega
    · intro b hb hb2
      rcases hfr with rfl | hfr
      · exact h7.rsv p.call _ HCL.out.2 b hb hb2
      · have := (World.ownsRow.lt HZ2.out.mem.row b hb2).2
        have := hfr b hb
        omega
   have HEND := hid hend
   clear hend
   have h63 : IntKind.i64.wrap ((L.now : Int) + 1) = (L.now : Int) + 1 := by rw [IntKind.wrap_i64]; have := HN.out.1; omega
   have h64 : ¬ (L.now : Int) + 1 > 9223372036854775807 := by have := HN.out.1; omega
   by_cases hkp : 0 < k
   · have hkp2 : (k : Int) > 0 := by omega
     have hp3 := row_put (enc := CV.cells) (sz := 7) (fun _ => rfl) HP2.out p.call 3 (by decide) (({ cl with en := (L.now : Int), code := q.1.code } : Cl).cv rk) (({ cl with en := (L.now : Int), code := q.1.code, wds := q.2.1 } : Cl).cv (.slice aa q.2.1.length ac)) (by rw [List.getElem?_set, if_pos rfl, if_pos (List.getElem?_eq_some_iff.1 (cvs_get HCL.out.1 HCL.out.2)).1]) (.slice aa q.2.1.length ac) rfl
     have hc9 : Chg [gc] w8 (w8.setCell ⟨gc, p.call * 7 + 3, none⟩ (.slice aa q.2.1.length ac)) := (Chg.refl [gc] w8).setCell (.inl (by simp)) _
     rw [List.set_set] at hp3
     have hL := HEND.out _ { cl with en := (L.now : Int), code := q.1.code, wds := q.2.1 } (.slice aa q.2.1.length ac) (HC8.out.trans hc9) (by unfold endC; rw [if_pos hkp]) hp3 ⟨_, HRO.out, HZ2.out.chg.size⟩ (HZ2.out.op k _ _ HM2.out HX2.out).2.wf (.inr (own_ge HRO.out))
     have d11 : (w8.setCell ⟨gc, p.call * 7 + 3, none⟩ (.slice aa q.2.1.length ac)).cell? ⟨z.lb, 11, none⟩ = some (.int .i64 (L.now : Int)) := by rw [<- hlb]; exact hL.box.cell (o := 11) rfl
     have f11 : (w8.setCell ⟨gc, p.call * 7 + 3, none⟩ (.slice aa q.2.1.length ac)).frozen? ⟨z.lb, 11, none⟩ = false := by rw [<- hlb]; exact hL.box.free 11
     have HL := hid hL
     clear hL hp3 hc9
     go_wp2
     go_ret
     refine ⟨by simp, { z1 with mb := z.mb, nm := z1.nm + 1, xs := z1.xs.set k { x1 with op := some (ob, bx, v') }, rvs := z1.rvs.set p.call (.slice aa q.2.1.length ac) }, ?_, hlb, rfl, HE.out.2.2.1, by show z1.nm + 1 = z.nm + 1; rw [HE.out.2.2.2]⟩
     have h9 := HL.out.tick t
     rw [<- hlb]
     unfold stepM
     simp only [HA.out.2.1, HQ.out, hov]
     exact h9
   · have hkp2 : ¬ (k : Int) > 0 := by omega
     have hL := HEND.out w8 { cl with en := (L.now : Int), code := q.1.code } rk HC8.out (by unfold endC; rw [if_neg hkp]) HP2.out ⟨_, (HZ2.out.fresh HC7.out).recs p.call cl rk HCL.out.1 HCL.out.2 |>.1, Nat.le_refl _⟩ ((HZ2.out.recs p.call cl rk HCL.out.1 HCL.out.2).2) (.inl rfl)
     have d11 : w8.cell? ⟨z.lb, 11, none⟩ = some (.int .i64 (L.now : Int)) := by rw [<- hlb]; exact hL.box.cell (o := 11) rfl
     have f11 : w8.frozen? ⟨z.lb, 11, none⟩ = false := by rw [<- hlb]; exact hL.box.free 11
     have HL := hid hL
     clear hL
     go_wp2
     go_ret
     refine ⟨by simp, { z1 with mb := z.mb, nm := z1.nm + 1, xs := z1.xs.set k { x1 with op := some (ob, bx, v') }, rvs := z1.rvs.set p.call rk }, ?_, hlb, rfl, HE.out.2.2.1, by show z1.nm + 1 = z.nm + 1; rw [HE.out.2.2.2]⟩
     have h9 := HL.out.tick t
     rw [<- hlb]
     unfold stepM
     simp only [HA.out.2.1, HQ.out, hov]
     exact h9
theorem turn_any {kk : Nat} {T : TypeId} {w0 r0 : Int} {K : Kind} (H : Ops kk K T frO (RightO kk) w0 r0) (t : TyOK T) {W V : World} {o : ObV} {L : Lo} {z : LV} (h : LoomAt kk T W V o L z) (ht : bitm.Tab W) (hw : WF kk w0 r0 K o L) (hn : L.now <= 50000) (hnm : 0 <= z.nm /\ z.nm <= 100000) (k : Int) :
 Calls Tryz.prog 22 #[.pointer (some ⟨z.lb, 0, none⟩), .int .i64 k] V fun e V' => e = .returned (.bool (turnM K (.pointer (some ⟨z.mb, 0, none⟩)) (frO o) L k).2) /\ ∃ z', LoomAt kk T W V' o (turnM K (.pointer (some ⟨z.mb, 0, none⟩)) (frO o) L k).1 z' /\ z'.lb = z.lb /\ z'.mb = z.mb /\ z'.sv = z.sv /\ z.nm <= z'.nm /\ z'.nm <= z.nm + 1 := by
 unfold turnM
 by_cases hk : k < 0
 · rw [if_pos hk]
   refine (turn_neg h hk).mono ?_
   rintro e V' ⟨rfl, hc⟩
   exact ⟨rfl, z, h.fresh hc, rfl, rfl, rfl, Int.le_refl _, by omega⟩
 · rw [if_neg hk]
   obtain ⟨j, rfl⟩ : ∃ j : Nat, k = j := ⟨k.toNat, by omega⟩
   rw [Int.toNat_natCast]
   match hm : L.ps[j]? with
   | none =>
    refine (turn_far h (by have := List.getElem?_eq_none_iff.1 hm; omega)).mono ?_
    rintro e V' ⟨rfl, hc⟩
    exact ⟨rfl, z, h.fresh hc, rfl, rfl, rfl, Int.le_refl _, by omega⟩
   | some m =>
    match hb : beginM (frO o) j L m with
    | none =>
     refine (turn_none H t h hw hn hm hb).mono ?_
     rintro e V' ⟨rfl, hc⟩
     simp only [hb]
     exact ⟨by simp, z, h.fresh hc, rfl, rfl, rfl, Int.le_refl _, by omega⟩
    | some (p, cs) =>
     refine (turn_some H t h ht hw hn hnm hm hb).mono ?_
     rintro e V' ⟨rfl, z', hz, e1, e2, e3, e4⟩
     simp only [hb]
     exact ⟨by simp, z', hz, e1, e2, e3, by omega, by omega⟩
theorem turnM_wf {kk : Nat} {w0 r0 : Int} {K : Kind} {o : ObV} {L : Lo} (h : WF kk w0 r0 K o L) (mv : Value) (k : Int) (hws : ∀ z ∈ L.ws, 0 <= z /\ z <= 4294967295) : WF kk w0 r0 K o (turnM K mv (frO o) L k).1 := by
 unfold turnM
 split
 · exact h
 · split
   · exact h
   · rename_i p hp
     split
     · exact h
     · rename_i p' cs hb
       exact stepM_wf h mv hp (beginM_wb h hp hb (frO_over o)) hws
def turnsM (K : Kind) (mv : Value) (fr : Int -> Int -> Core) (L : Lo) (ts : List Int) : Lo := ts.foldl (fun L k => (turnM K mv fr L k).1) L
theorem stepM_now (K : Kind) (mv : Value) (k : Nat) (L : Lo) (p : PM) (cs : List Cl) : L.now <= (stepM K mv k L p cs).now /\ (stepM K mv k L p cs).now <= L.now + 1 := by
 unfold stepM
 split
 · exact ⟨Nat.le_refl _, Nat.le_succ _⟩
 · exact ⟨Nat.le_succ _, Nat.le_refl _⟩
theorem turnM_now (K : Kind) (mv : Value) (fr : Int -> Int -> Core) (L : Lo) (k : Int) : L.now <= (turnM K mv fr L k).1.now /\ (turnM K mv fr L k).1.now <= L.now + 1 := by
 unfold turnM
 split
 · exact ⟨Nat.le_refl _, Nat.le_succ _⟩
 · split
   · exact ⟨Nat.le_refl _, Nat.le_succ _⟩
   · split
     · exact ⟨Nat.le_refl _, Nat.le_succ _⟩
     · exact stepM_now K mv _ L _ _
theorem turnsM_snoc (K : Kind) (mv : Value) (fr : Int -> Int -> Core) (L : Lo) (ts : List Int) (k : Int) : turnsM K mv fr L (ts ++ [k]) = (turnM K mv fr (turnsM K mv fr L ts) k).1 := by
 unfold turnsM
 rw [List.foldl_append]; rfl
theorem turnsM_now (K : Kind) (mv : Value) (fr : Int -> Int -> Core) : ∀ (ts : List Int) (L : Lo), L.now <= (turnsM K mv fr L ts).now /\ (turnsM K mv fr L ts).now <= L.now + ts.length
 | [], L => ⟨Nat.le_refl _, Nat.le_refl _⟩
 | k :: ts, L => by
  have h1 := turnM_now K mv fr L k
  have h2 := turnsM_now K mv fr ts (turnM K mv fr L k).1
  show L.now <= (turnsM K mv fr (turnM K mv fr L k).1 ts).now /\ (turnsM K mv fr (turnM K mv fr L k).1 ts).now <= L.now + (ts.length + 1)
  omega
theorem size_of {kk : Int} {o : ObV} (h : RightO kk o) : rop.sizeI o.k o.w o.s o.c o.st o.il o.rl = rop.headI kk o.rl + rop.recordsI kk o.s o.rl * o.w := by
 obtain ⟨hk, -, hR⟩ := h
 unfold rop.sizeI
 rw [hk, if_pos hR]
theorem frok_four {o : ObV} (h : RightO 1 o) : FrOK 2 1 four.K o := by
 intro op rd wds hc
 have hsz := size_of h
 have hR := h.2.2
 simp only [rightB, decide_eq_true_eq] at hR
 simp only [rop.headI, rop.recordsI, if_pos] at hsz
 rcases hc with ⟨rfl, e2, e3⟩ | ⟨rfl, e2, e3, rfl⟩
 · exact ⟨by simp only [frO, freshC]; omega, .inl rfl, .inl rfl, Int.le_refl _, hsz, fun _ => by simp only [frO, freshC]; omega, .inl ⟨rfl, by simp [frO, freshC], fun _ => e3⟩⟩
 · exact ⟨by simp only [frO, freshC]; omega, .inl rfl, .inl rfl, Int.le_refl _, hsz, fun _ => by simp only [frO, freshC]; omega, .inr ⟨rfl, by simp [frO, freshC], fun _ => by simp [frO, freshC]⟩⟩
theorem frok_seq {o : ObV} (h : RightO 3 o) : FrOK 2 1 seq.K o := by
 intro op rd wds hc
 have hsz := size_of h
 have hR := h.2.2
 simp only [rightB, decide_eq_true_eq] at hR
 have hsz2 : rop.sizeI o.k o.w o.s o.c o.st o.il o.rl = 1 + o.w := by rw [hsz]; simp [rop.headI, rop.recordsI]
 rcases hc with ⟨rfl, e2, e3⟩ | ⟨rfl, e2, e3, rfl⟩
 · exact ⟨by simp only [frO, freshC]; omega, by simp only [frO, freshC]; omega, by simp only [frO, freshC]; omega, ⟨by simp only [frO, freshC]; omega, fun _ => by simp only [frO, freshC]; omega⟩, Int.le_refl _, hsz2, fun _ => by simp only [frO, freshC]; omega, .inl ⟨rfl, by simp [frO, freshC], fun _ => e3⟩⟩
 · exact ⟨by simp only [frO, freshC]; omega, by simp only [frO, freshC]; omega, by simp only [frO, freshC]; omega, ⟨by simp only [frO, freshC]; omega, fun _ => by simp only [frO, freshC]; omega⟩, Int.le_refl _, hsz2, fun _ => by simp only [frO, freshC]; omega, .inr ⟨rfl, by simp [frO, freshC], fun _ => by simp [frO, freshC]⟩⟩
theorem frok_ring {o : ObV} (h : RightO 4 o) : FrOK 2 1 ring.K o := by
 intro op rd wds hc
 have hsz := size_of h
 have hR := h.2.2
 simp only [rightB, decide_eq_true_eq] at hR
 have hsz2 : rop.sizeI o.k o.w o.s o.c o.st o.il o.rl = 1 + o.s * o.w := by rw [hsz]; simp [rop.headI, rop.recordsI]
 rcases hc with ⟨rfl, e2, e3⟩ | ⟨rfl, e2, e3, rfl⟩
 · exact ⟨by simp only [frO, freshC]; omega, by simp only [frO, freshC]; omega, by simp only [frO, freshC]; omega, by simp only [frO, freshC]; omega, ⟨by simp only [frO, freshC]; omega, fun _ => by simp only [frO, freshC]; omega⟩, Int.le_refl _, hsz2, fun _ => by simp only [frO, freshC]; omega, .inl ⟨rfl, by simp [frO, freshC], fun _ => e3⟩⟩
 · exact ⟨by simp only [frO, freshC]; omega, by simp only [frO, freshC]; omega, by simp only [frO, freshC]; omega, by simp only [frO, freshC]; omega, ⟨by simp only [frO, freshC]; omega, fun _ => by simp only [frO, freshC]; omega⟩, Int.le_refl _, hsz2, fun _ => by simp only [frO, freshC]; omega, .inr ⟨rfl, by simp [frO, freshC], fun _ => by simp [frO, freshC]⟩⟩
theorem frok_fifo {o : ObV} (h : RightO 6 o) : FrOK 3 4 fifo.K o := by
 intro op rd wds hc
 have hsz := size_of h
 have hR := h.2.2
 simp only [rightB, decide_eq_true_eq] at hR
 have hsz2 : rop.sizeI o.k o.w o.s o.c o.st o.il o.rl = 2 + o.s * o.w := by rw [hsz]; simp [rop.headI, rop.recordsI]
 rcases hc with ⟨rfl, e2, e3⟩ | ⟨rfl, e2, e3, rfl⟩
 · exact ⟨by simp only [frO, freshC]; omega, by simp only [frO, freshC]; omega, by simp only [frO, freshC]; omega, Int.le_refl _, hsz2, fun _ => by simp only [frO, freshC]; omega, .inl ⟨rfl, by simp [frO, freshC], fun _ => e3⟩⟩
 · exact ⟨by simp only [frO, freshC]; omega, by simp only [frO, freshC]; omega, by simp only [frO, freshC]; omega, Int.le_refl _, hsz2, fun _ => by simp only [frO, freshC]; omega, .inr ⟨rfl, by simp [frO, freshC], fun _ => by simp [frO, freshC]⟩⟩
theorem frok_cab {o : ObV} (h : RightO 5 o) : FrOK 2 1 cab.K o := by
 intro op rd wds hc
 have hsz := size_of h
 have hR := h.2.2
 simp only [rightB, decide_eq_true_eq] at hR
 have hsz2 : rop.sizeI o.k o.w o.s o.c o.st o.il o.rl = 1 + o.rl + o.s * o.w := by rw [hsz]; simp [rop.headI, rop.recordsI]
 rcases hc with ⟨rfl, e2, e3⟩ | ⟨rfl, e2, e3, rfl⟩
 · exact ⟨by simp only [frO, freshC]; omega, by simp only [frO, freshC]; omega, by simp only [frO, freshC]; omega, by simp only [frO, freshC]; omega, by simp only [frO, freshC]; omega, by simp only [frO, freshC]; omega, by simp only [frO, freshC]; omega, ⟨by simp only [frO, freshC]; omega, by simp only [frO, freshC]; omega, fun _ _ => by simp only [frO, freshC]; omega⟩, Int.le_refl _, hsz2, fun _ _ _ => bitm.Marks.zero, fun _ => ⟨Int.le_refl _, by simp [frO, freshC]; omega⟩, .inl ⟨rfl, by simp [frO, freshC], fun _ => e3⟩⟩
 · exact ⟨by simp only [frO, freshC]; omega, by simp only [frO, freshC]; omega, by simp only [frO, freshC]; omega, by simp only [frO, freshC]; omega, by simp only [frO, freshC]; omega, by simp only [frO, freshC]; omega, by simp only [frO, freshC]; omega, ⟨by simp only [frO, freshC]; omega, by simp only [frO, freshC]; omega, fun _ _ => by simp only [frO, freshC]; omega⟩, Int.le_refl _, hsz2, fun _ h9 => by simp [frO, freshC] at h9, fun _ => ⟨Int.le_refl _, by simp [frO, freshC]; omega⟩, .inr ⟨rfl, by simp [frO, freshC], fun _ => by simp [frO, freshC]⟩⟩
theorem frok_chen {o : ObV} (h : RightO 2 o) : FrOK 2 1 chen.K o := by
 intro op rd wds hc
 have hsz := size_of h
 have hR := h.2.2
 simp only [rightB, decide_eq_true_eq] at hR
 have hsz2 : rop.sizeI o.k o.w o.s o.c o.st o.il o.rl = 1 + o.rl + ((o.rl : Int) + 2) * o.w := by rw [hsz]; simp [rop.headI, rop.recordsI]
 rcases hc with ⟨rfl, e2, e3⟩ | ⟨rfl, e2, e3, rfl⟩
 · exact ⟨by simp only [frO, freshC]; omega, by simp only [frO, freshC]; omega, by simp only [frO, freshC]; omega, by simp only [frO, freshC]; omega, by simp only [frO, freshC]; omega, Int.le_refl _, hsz2, fun _ _ _ => bitm.Marks.zero, fun _ => ⟨Int.le_refl _, by simp [frO, freshC]; omega⟩, .inl ⟨rfl, by simp [frO, freshC], fun _ => e3⟩⟩
 · exact ⟨by simp only [frO, freshC]; omega, by simp only [frO, freshC]; omega, by simp only [frO, freshC]; omega, by simp only [frO, freshC]; omega, by simp only [frO, freshC]; omega, Int.le_refl _, hsz2, fun _ h9 => by simp [frO, freshC] at h9, fun _ => ⟨Int.le_refl _, by simp [frO, freshC]; omega⟩, .inr ⟨rfl, by simp [frO, freshC], fun _ => by simp [frO, freshC]⟩⟩
def wOp (k : Int) : Int := if k = 6 then 3 else 2
def rOp (k : Int) : Int := if k = 6 then 4 else 1
set_option maxHeartbeats 4000000 in
theorem Ops_any (k : Int) (hk : 1 <= k /\ k <= 6) (W : World) : Calls Tryz.prog 43 #[.int .i64 k] W fun e W' => e = .returned (.tuple #[.int .i64 (wOp k), .int .i64 (rOp k), .bool true]) /\ W = W' := by
 have h : k = 1 \/ k = 2 \/ k = 3 \/ k = 4 \/ k = 5 \/ k = 6 := by omega
 rcases h with rfl | rfl | rfl | rfl | rfl | rfl
 all_goals
  go_enter Tryz.func43, Tryz.ntmps43
  go_wp2
  refine bodyPost_ret (results_tmp3 rfl _ _ _) rfl ?_
  exact ⟨rfl, rfl⟩
set_option maxHeartbeats 4000000 in
theorem Shaped_any (k w s c st : Int) (ia : Option Addr) (il ic : Nat) (wr : Int) (ra : Option Addr) (rl rc : Nat) (hk : 1 <= k /\ k <= 6) (h : ObjW k w s c st il rl) (W : World) :
 Calls Tryz.prog 42 #[.agg #[.int .i64 k, .int .i64 w, .int .i64 s, .int .i64 c, .int .u32 st, .slice ia il ic, .int .i64 wr, .slice ra rl rc]] W fun e W' => e = .returned (.bool (rightB k w s c st il rl)) /\ Chg [] W W' := by
 have HO := hid h
 have HCC : Hid (Chg [] W (W.alloc (.cells #[.int .i64 k, .int .i64 w, .int .i64 s, .int .i64 c, .int .u32 st, .slice ia il ic, .int .i64 wr, .slice ra rl rc] 26))) := hid ((Chg.refl _ _).alloc _)
 have hcase : k = 1 \/ k = 2 \/ k = 3 \/ k = 4 \/ k = 5 \/ k = 6 := by omega
 clear h hk
 obtain ⟨R, hR⟩ : ∃ R, rightB k w s c st il rl = R := ⟨_, rfl⟩
 have HR := hid hR
 rw [hR]
 clear hR
 rcases hcase with rfl | hcase
 · have HS : Hid (∀ V, Calls Tryz.prog 80 #[.agg #[.int .i64 1, .int .i64 w, .int .i64 s, .int .i64 c, .int .u32 st, .slice ia il ic, .int .i64 wr, .slice ra rl rc]] V fun e W' => e = .returned (.bool R) /\ Chg [] V W') := hid (fun V => by have := fourRight_any 1 w s c st ia il ic wr ra rl rc HO.out V; rwa [show (decide ((1 : Int) = 1) && rightB 1 w s c st il rl) = R by rw [HR.out]; rfl] at this)
   go_enter Tryz.func42, Tryz.ntmps42
   go_wp2_with (go_at_call 80; refine (HS.out _).mono ?_; rintro e w1 ⟨rfl, hc⟩; have HC := hid (HCC.out.trans hc); clear hc)
   go_ret
   exact ⟨rfl, HC.out⟩
 rcases hcase with rfl | hcase
 · have HS : Hid (∀ V, Calls Tryz.prog 81 #[.agg #[.int .i64 2, .int .i64 w, .int .i64 s, .int .i64 c, .int .u32 st, .slice ia il ic, .int .i64 wr, .slice ra rl rc]] V fun e W' => e = .returned (.bool R) /\ Chg [] V W') := hid (fun V => by have := chenRight_any 2 w s c st ia il ic wr ra rl rc HO.out V; rwa [show (decide ((2 : Int) = 2) && rightB 2 w s c st il rl) = R by rw [HR.out]; rfl] at this)
   go_enter Tryz.func42, Tryz.ntmps42
   go_wp2_with (go_at_call 81; refine (HS.out _).mono ?_; rintro e w1 ⟨rfl, hc⟩; have HC := hid (HCC.out.trans hc); clear hc)
   go_ret
   exact ⟨rfl, HC.out⟩
 rcases hcase with rfl | hcase
 · have HS : Hid (∀ V, Calls Tryz.prog 82 #[.agg #[.int .i64 3, .int .i64 w, .int .i64 s, .int .i64 c, .int .u32 st, .slice ia il ic, .int .i64 wr, .slice ra rl rc]] V fun e W' => e = .returned (.bool R) /\ Chg [] V W') := hid (fun V => by have := seqRight_any 3 w s c st ia il ic wr ra rl rc HO.out V; rwa [show (decide ((3 : Int) = 3) && rightB 3 w s c st il rl) = R by rw [HR.out]; rfl] at this)
   go_enter Tryz.func42, Tryz.ntmps42
   go_wp2_with (go_at_call 82; refine (HS.out _).mono ?_; rintro e w1 ⟨rfl, hc⟩; have HC := hid (HCC.out.trans hc); clear hc)
   go_ret
   exact ⟨rfl, HC.out⟩
 rcases hcase with rfl | hcase
 · have HS : Hid (∀ V, Calls Tryz.prog 83 #[.agg #[.int .i64 4, .int .i64 w, .int .i64 s, .int .i64 c, .int .u32 st, .slice ia il ic, .int .i64 wr, .slice ra rl rc]] V fun e W' => e = .returned (.bool R) /\ Chg [] V W') := hid (fun V => by have := ringRight_any 4 w s c st ia il ic wr ra rl rc HO.out V; rwa [show (decide ((4 : Int) = 4) && rightB 4 w s c st il rl) = R by rw [HR.out]; rfl] at this)
   go_enter Tryz.func42, Tryz.ntmps42
   go_wp2_with (go_at_call 83; refine (HS.out _).mono ?_; rintro e w1 ⟨rfl, hc⟩; have HC := hid (HCC.out.trans hc); clear hc)
   go_ret
   exact ⟨rfl, HC.out⟩
 rcases hcase with rfl | hcase
 · have HS : Hid (∀ V, Calls Tryz.prog 84 #[.agg #[.int .i64 5, .int .i64 w, .int .i64 s, .int .i64 c, .int .u32 st, .slice ia il ic, .int .i64 wr, .slice ra rl rc]] V fun e W' => e = .returned (.bool R) /\ Chg [] V W') := hid (fun V => by have := cabRight_any 5 w s c st ia il ic wr ra rl rc HO.out V; rwa [show (decide ((5 : Int) = 5) && rightB 5 w s c st il rl) = R by rw [HR.out]; rfl] at this)
   go_enter Tryz.func42, Tryz.ntmps42
   go_wp2_with (go_at_call 84; refine (HS.out _).mono ?_; rintro e w1 ⟨rfl, hc⟩; have HC := hid (HCC.out.trans hc); clear hc)
   go_ret
   exact ⟨rfl, HC.out⟩
 subst hcase
 have HS : Hid (∀ V, Calls Tryz.prog 85 #[.agg #[.int .i64 6, .int .i64 w, .int .i64 s, .int .i64 c, .int .u32 st, .slice ia il ic, .int .i64 wr, .slice ra rl rc]] V fun e W' => e = .returned (.bool R) /\ Chg [] V W') := hid (fun V => by have := fifoRight_any 6 w s c st ia il ic wr ra rl rc HO.out V; rwa [show (decide ((6 : Int) = 6) && rightB 6 w s c st il rl) = R by rw [HR.out]; rfl] at this)
 go_enter Tryz.func42, Tryz.ntmps42
 go_wp2_with (go_at_call 85; refine (HS.out _).mono ?_; rintro e w1 ⟨rfl, hc⟩; have HC := hid (HCC.out.trans hc); clear hc)
 go_ret
 exact ⟨rfl, HC.out⟩
end Go.Proofs.YtphfnjcboellhaaGreatDoor.wv
