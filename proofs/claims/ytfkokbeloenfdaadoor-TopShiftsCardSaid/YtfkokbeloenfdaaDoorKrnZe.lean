/- The kernel: New. -/
import Derived.Test.YtfkokbeloenfdaaDoorKrnNew
namespace Go.Proofs.YtfkokbeloenfdaaDoor.krn
open Go Go.RowKit Go.Proofs.YtfkokbeloenfdaaDoor.kit Go.Shelf
set_option linter.unusedVariables false
set_option linter.unusedSimpArgs false
set_option maxRecDepth 20000
theorem KAt.growPrio {w w3 : World} {B kb n : Nat} {k : Kn} {q : KQ} (h : KAt w B kb n k q) (c : Chg (blk q.pa) w w3) (x : Int) (a2 : Option Addr) (c2 : Nat) (hnp : ∀ y ∈ blk q.pa, y ∉ q.lq.bs q.lb)
    (hr : w3.ownsRow B 3 1 (.slice a2 (k.prio ++ [x]).length c2) (k.prio ++ [x]).length (intV (k.prio ++ [x]))) (hb : ∀ y ∈ blk a2, y ∈ blk q.pa ∨ w.heap.size ≤ y) :
    KAt (w3.setCell ⟨kb, 1, none⟩ (.slice a2 (k.prio ++ [x]).length c2)) B kb n { k with prio := k.prio ++ [x] } { q with pa := a2, pc := c2 } := by
  have hm : ∀ y, y ∈ blk q.pa → (Value.slice q.pa k.prio.length q.pc).ownBlock = some y := fun y hy => by
    rw [own_slice]; exact Option.mem_toList.1 hy
  have hb3 := h.box.keep c (fun hm' => own_type h.rp h.box (by decide) _ (hm _ hm') rfl)
  have k1 : Chg [kb] w3 (w3.setCell ⟨kb, 1, none⟩ (.slice a2 (k.prio ++ [x]).length c2)) := (Chg.refl _ w3).setCell (.inl (by simp)) _
  have hs : ∀ {y}, y ∈ [kb] → y = kb := fun h => List.mem_singleton.1 h
  refine ⟨hb3.set 1 _, ?_, ?_, ?_, ?_, ?_, ?_⟩
  · exact own_keep (own_keep h.rl c (fun y hy hm' => own_type2 h.rl h.rp (by decide) y hy (hm y hm'))) k1 (fun y hy hm' => own_type h.rl h.box (by decide) y hy (hs hm'))
  · exact own_keep hr k1 (fun y hy hm' => own_type hr hb3 (by decide) y hy (hs hm'))
  · exact (h.led.keep c (fun y hy hm' => hnp y hm' hy)).keep k1 (fun y hy hm' => h.dj y hy (by rw [hs hm']; simp [KQ.rest]))
  · exact (h.ag.keep c (fun hm' => own_type h.rp h.ag.1 (by decide) _ (hm _ hm') rfl) (fun y hy hm' => own_type2 h.ag.2 h.rp (by decide) y hy (hm y hm'))).keep k1 (fun hm' => blk_ne h.ag.1 h.box (by decide) (hs hm')) (fun y hy hm' => own_type h.ag.2 h.box (by decide) y hy (hs hm'))
  · exact (h.ml.keep c (fun hm' => h.ml.ne_row h.rp _ (hm _ hm') rfl)).keep k1 (fun hm' => h.ml.ne_blk h.box (hs hm'))
  · intro y hy hy'
    rcases KQ.mem hy' with h1 | h1 | h1 | h1 | h1 | h1
    · exact h.dj y hy (by simp [KQ.rest, h1])
    · exact h.dj y hy (by simp only at h1; simp [KQ.rest, h1])
    · exact h.dj y hy (by simp only at h1; simp [KQ.rest, h1])
    · exact h.dj y hy (by simp only at h1; simp [KQ.rest, h1])
    · rcases hb y (Option.mem_toList.2 h1) with h2 | h2
      · exact hnp y h2 hy
      · have := h.led.lt y hy; omega
    · exact h.dj y hy (by simp only at h1; simp [KQ.rest, h1])
def newF (room : Int) (ds : List Du) (p : Nat × Tk) : List Du := if p.2.kind = 1 then pushM room ds ⟨p.2.offset, p.1⟩ else ds
def newD (l : List Tk) (j : Nat) : List Du := (((List.range l.length).zip l).take j).foldl (newF (l.length : Int)) []
def kn0 (l : List Tk) (j : Nat) : Kn := ⟨l, (l.take j).map (·.prio), led0 l, newD l j, fun _ => none, 0, false⟩
theorem newD_succ {l : List Tk} {j : Nat} {t : Tk} (h : l[j]? = some t) : newD l (j + 1) = newF (l.length : Int) (newD l j) (j, t) := by
  have hj : j < l.length := (List.getElem?_eq_some_iff.1 h).1
  unfold newD
  have : ((List.range l.length).zip l)[j]? = some (j, t) := by
    rw [List.getElem?_zip_eq_some]
    exact ⟨by simp [hj], h⟩
  rw [List.take_add_one, this, List.foldl_append]
  rfl
theorem newD_all (l : List Tk) (hp : ∀ t ∈ l, PlainT t) : ∀ j, j ≤ l.length → ((newD l j).length : Int) ≤ l.length ∧ ∀ d ∈ newD l j, (0 ≤ d.at_ ∧ d.at_ ≤ 1060000) ∧ 0 ≤ d.task ∧ d.task < l.length
  | 0, _ => by simp [newD]
  | j + 1, hj => by
    have ih := newD_all l hp j (by omega)
    obtain ⟨t, ht⟩ : ∃ t, l[j]? = some t := ⟨_, List.getElem?_eq_getElem (by omega)⟩
    rw [newD_succ ht]
    unfold newF
    split
    · refine ⟨pushM_len ih.1, pushM_all ih.2 ?_⟩
      have := (hp t (List.mem_of_getElem? ht)).offset
      simp only
      omega
    · exact ih
theorem LedAt.base {w : World} {B B' db n : Nat} {s : Led} {q : LedQ} (h : LedAt w B db n s q) (hb : B' ≤ B) : LedAt w B' db n s q := ⟨h.box, own_mono h.rl hb, own_mono h.ra hb, h.mn, h.mc, own_mono h.ro hb, h.nc⟩
theorem AgAt.base {w : World} {B B' db : Nat} {room : Int} {a : Option Addr} {c : Nat} {ds : List Du} (h : AgAt w B db room a c ds) (hb : B' ≤ B) : AgAt w B' db room a c ds := ⟨h.1, own_mono h.2 hb⟩
theorem led0_ok (l : List Tk) (hl : l.length ≤ 8) (hp : ∀ t ∈ l, PlainT t) : LedOK (led0 l) 0 where
  act := by show 0 < 256; decide
  alen := Nat.le_refl _
  olen := Nat.le_refl _
  llen := hl
  cnt := fun i v h => nomatch (h : (none : Option Int) = some v)
  now := fun i hb => by simp [led0] at hb
  fit := fun j hj => nomatch (hj : j ∈ ([] : List Jb))
  fitl := fun t ht => by
    have h := hp t ht
    have h1 := h.period; have h2 := h.offset; have h3 := h.deadline
    omega
theorem kn0_ok (l : List Tk) (hl : 1 ≤ l.length ∧ l.length ≤ 8) (hp : ∀ t ∈ l, PlainT t) : KOK (kn0 l l.length) 0 where
  led := led0_ok l hl.2 hp
  ll := rfl
  pl := by simp [kn0]
  now := ⟨Int.le_refl _, by show (0 : Int) ≤ 2000; decide⟩
  due := (newD_all l hp l.length (Nat.le_refl _)).2
  dl := Int.ofNat_le.1 (newD_all l hp l.length (Nat.le_refl _)).1
  last := fun i v h => nomatch (h : (none : Option Int) = some v)
  st := fun j hj => nomatch (hj : j ∈ ([] : List Jb))
set_option maxHeartbeats 4000000 in
theorem New_any (sv : Value) (l : List Tk) (w : World) (h : Reads w 7 sv l.length (TkV l)) (hl : 1 ≤ l.length ∧ l.length ≤ 8) (hp : ∀ t ∈ l, PlainT t ∧ t.code.oneCell' = true) :
    Calls Tryd.prog 10 #[sv] w fun e w' => ∃ kb q, e = .returned (.tuple #[.pointer (some ⟨kb, 0, none⟩), .int .i64 0]) ∧ KAt w' w.heap.size kb 0 (kn0 l l.length) q ∧ (∀ y ∈ q.all kb, w.heap.size ≤ y) ∧ Chg [] w w' := by
  have HCF := Lib.hid (Contains_any sv l w h hl.2 hp)
  have HCL := Lib.hid (fun V (hV : Chg [] w V) => Clone_any sv l V (h.fresh hV) hl hp)
  have HJN := Lib.hid (fun V (hV : Chg [] w V) => jobNew_any sv l V (h.fresh hV) hl hp)
  have HAN := Lib.hid (fun V => agNew_any l.length hl.1 hl.2 V)
  have HR := Lib.hid (⟨h, hl, hp⟩ : _ ∧ _ ∧ _)
  obtain ⟨sa, sc, rfl⟩ := reads_open h
  obtain ⟨n, hn⟩ : ∃ z, l.length = z := ⟨_, rfl⟩
  rw [hn] at HCF HCL HJN HAN ⊢
  have m1 : ¬ (n : Int) = 0 := by omega
  have m1' : ((n : Int) == 0) = false := by simp; omega
  have m2 : ¬ (8 : Int) < (n : Int) := by omega
  have HN := Lib.hid hn
  have hmk : ∀ W : World, (Instr.makeMap 64 none).run Tryd.prog W = .ok (.map (some W.heap.size)) (W.alloc (.map #[] 0)) := fun W => run_makeMap _ W
  clear h hl hp hn
  go_enter Tryd.func10, Tryd.ntmps10
  go_wp2_with (first
    | (go_at_call 16; refine HCF.out.mono ?_; rintro e w1 ⟨rfl, hc1⟩; have HC1 := Lib.hid hc1; clear hc1)
    | (go_at_call 19; refine (HCL.out w1 HC1.out).mono ?_; rintro e w2 ⟨a2, c2, rfl, ho2, hc2⟩; have HO2 := Lib.hid ho2; have HC2 := Lib.hid (HC1.out.trans hc2); clear ho2 hc2)
    | (go_at_call 20; refine (HJN.out w2 HC2.out).mono ?_; rintro e w3 ⟨lb, lq, rfl, hl3, hn3, hc3⟩; have HL3 := Lib.hid (⟨hl3, hn3⟩ : _ ∧ _); have HC3 := Lib.hid hc3; clear hl3 hn3 hc3)
    | (go_at_call 21; refine (HAN.out w3).mono ?_; rintro e w4 ⟨ab, rfl, hab, ha4, hc4⟩; have HA4 := Lib.hid (⟨hab, ha4⟩ : _ ∧ _); have HC4 := Lib.hid hc4; clear hab ha4 hc4))
  obtain ⟨wm, hwm⟩ : ∃ z, w4.alloc (.map #[] 0) = z := ⟨_, rfl⟩
  have hma : MapI wm w4.heap.size 0 (fun _ => none) := by rw [← hwm]; exact MapI.made w4
  have hsm : wm.heap.size = w4.heap.size + 1 := by rw [← hwm]; simp
  have hcm : Chg [] w4 wm := by rw [← hwm]; exact (Chg.refl [] w4).alloc _
  rw [hwm, ← hsm]
  clear hwm
  obtain ⟨w5, hw5⟩ : ∃ z, wm.alloc (.cells #[.slice a2 n c2, .slice none 0 0, .pointer (some ⟨lb, 0, none⟩), .pointer (some ⟨ab, 0, none⟩), .map (some w4.heap.size), .int .i64 0, .bool false] 66) = z := ⟨_, rfl⟩
  have hb5 : Blk w5 wm.heap.size #[.slice a2 n c2, .slice none 0 0, .pointer (some ⟨lb, 0, none⟩), .pointer (some ⟨ab, 0, none⟩), .map (some w4.heap.size), .int .i64 0, .bool false] 66 := by rw [← hw5]; exact Blk.new wm _ _
  have hc5 : Chg [] wm w5 := by rw [← hw5]; exact (Chg.refl [] wm).alloc _
  rw [hw5]
  clear hw5
  obtain ⟨kb, hkb⟩ : ∃ z, wm.heap.size = z := ⟨_, rfl⟩
  rw [hkb] at hb5 ⊢
  have hz1 := HC2.out.size
  have hz2 := HC3.out.size
  have hz3 := HC4.out.size
  have hla : ∀ y, a2.map (·.block) = some y → w.heap.size ≤ y ∧ y < w2.heap.size := fun y hy => by
    have h1 := World.ownsRow.lt HO2.out y (by rw [own_slice]; exact hy)
    have h2 := HC1.out.size
    omega
  have hlq : ∀ y ∈ lq.bs lb, w2.heap.size ≤ y ∧ y < w3.heap.size := fun y hy => ⟨HL3.out.2 y hy, HL3.out.1.lt y hy⟩
  have hab : w3.heap.size ≤ ab ∧ ab < w4.heap.size := ⟨HA4.out.1, HA4.out.2.1.lt⟩
  have c25 : Chg [] w2 w5 := ((HC3.out.trans HC4.out).trans hcm).trans hc5
  have c35 : Chg [] w3 w5 := (HC4.out.trans hcm).trans hc5
  have HK0 : Hid (KAt w5 w.heap.size kb 0 (kn0 l 0) ⟨a2, c2, none, 0, lb, lq, ab, none, 0, w4.heap.size⟩ ∧ (∀ y ∈ (⟨a2, c2, none, 0, lb, lq, ab, none, 0, w4.heap.size⟩ : KQ).all kb, w.heap.size ≤ y) ∧ Chg [] w w5) := Lib.hid (by
    refine ⟨⟨?_, ?_, ?_, ?_, ?_, ?_, ?_⟩, ?_, ?_⟩
    · show Blk w5 kb #[.slice a2 l.length c2, _, _, _, _, _, _] _
      rw [HN.out]
      exact hb5
    · show w5.ownsRow _ _ 7 (.slice a2 l.length c2) l.length _
      rw [HN.out]
      exact own_keep (own_mono HO2.out HC1.out.size) c25 (by simp)
    · exact ⟨rfl, .inl ⟨rfl, rfl⟩⟩
    · exact (HL3.out.1.base hz1).fresh c35
    · show AgAt w5 _ ab (l.length : Int) none 0 []
      rw [HN.out]
      exact (HA4.out.2.base (by omega)).fresh (hcm.trans hc5)
    · exact hma.keep hc5 (by simp)
    · intro y hy hm
      have h1 := hlq y hy
      rcases KQ.mem hm with h2 | h2 | h2 | h2 | h2 | h2
      · omega
      · simp only at h2; omega
      · simp only at h2; omega
      · simp only at h2; have := hla y h2; omega
      · cases h2
      · cases h2
    · intro y hy
      rcases List.mem_append.1 hy with hy | hy
      · rcases KQ.mem hy with h2 | h2 | h2 | h2 | h2 | h2
        · omega
        · simp only at h2; omega
        · simp only at h2; omega
        · simp only at h2; have := hla y h2; omega
        · cases h2
        · cases h2
      · have := hlq y hy; omega
    · exact HC2.out.trans c25)
  clear hma hsm hcm hb5 hc5 hkb hz1 hz2 hz3 hla hlq hab c25 c35
  go_loopw [33] (fun p wr => ∃ (j : Nat) (q' : KQ), p = .int .i64 (j : Int) ∧ Hid (j ≤ n) ∧ Hid (KAt wr w.heap.size kb 0 (kn0 l j) q' ∧ (∀ y ∈ q'.all kb, w.heap.size ≤ y) ∧ Chg [] w wr)) (fun p _ => n - (intOf p).toNat)
  case atStart => exact ⟨0, _, rfl, Lib.hid (by omega), HK0⟩
  case round =>
    obtain ⟨j, q', rfl, HJ, HK⟩ := hrel
    by_cases hjn : j < n
    · have m3 : (j : Int) < (n : Int) := by omega
      obtain ⟨t, ht⟩ : ∃ t, l[j]? = some t := ⟨_, List.getElem?_eq_getElem (by rw [HN.out]; exact hjn)⟩
      obtain ⟨hpt, hct⟩ := HR.out.2.2 t (List.mem_of_getElem? ht)
      have hrd := HR.out.1.fresh HK.out.2.2
      obtain ⟨rb, ro, rx, rc, -⟩ := reads_index (P := Tryd.prog) Tryd.underlying22 szTask hrd
      have ix := rx j (by rw [HN.out]; exact hjn)
      rw [HN.out] at ix
      have hg : ∀ f v, f < 7 → t.cells[f]? = some v → wr.cell? ⟨rb, ro + (j * 7 + f), none⟩ = some v := fun f v hf hv => rc _ _ (by unfold TkV; rw [flatMap_get Tk.cells 7 (fun _ => rfl) l j f hf _ ht]; exact hv)
      have HNX := Lib.hid (fun V => Next_any t hpt hct V)
      have HTK : Hid (l.take (j + 1) = l.take j ++ [t]) := Lib.hid (by rw [List.take_add_one, ht]; rfl)
      have HND : Hid (newD l (j + 1) = newF (l.length : Int) (newD l j) (j, t)) := Lib.hid (newD_succ ht)
      have HNA := Lib.hid (newD_all l (fun t ht => (HR.out.2.2 t ht).1) j (by rw [HN.out]; omega))
      have hof := hpt.offset
      have hki := hpt.kind
      have HLN : Hid (((kn0 l j).prio).length = j) := Lib.hid (by have h1 := HN.out; show ((l.take j).map (·.prio)).length = j; rw [List.length_map, List.length_take]; omega)
      obtain ⟨x0, x1, x2, x3, x4, x5, x6⟩ := t
      unfold Tk.val at HNX
      have y0 := hg 0 _ (by decide) rfl
      have y1 := hg 1 _ (by decide) rfl
      have y2 := hg 2 _ (by decide) rfl
      have y3 := hg 3 _ (by decide) rfl
      have y4 := hg 4 _ (by decide) rfl
      have y5 := hg 5 _ (by decide) rfl
      have y6 := hg 6 _ (by decide) rfl
      simp only at hct hof hki HNX
      obtain ⟨of0, of1⟩ := hof
      simp only [Nat.add_zero, ← Nat.add_assoc] at y0 y1 y2 y3 y4 y5 y6
      have HJN2 : Hid (j < n) := Lib.hid hjn
      have h63 : ¬ (j : Int) + 1 > 9223372036854775807 := by have h1 := HR.out.2.1.2; have h2 := HN.out; omega
      have HBZ := Lib.hid (Blk.new wr #[.int .i64 0, .int .i64 0, .int .i64 0, .int .i64 0, .int .i64 0, .int .i64 0, .slice none 0 0] 33)
      have hone : (#[.int .i64 x0, .int .i64 x1, .int .i64 x2, .int .i64 x3, .int .i64 x4, .int .i64 x5, x6] : Array Value).all (·.oneCell') = true := by rw [← Array.all_toList]; simp only [List.all_cons, List.all_nil, hct, Bool.and_true]; rfl
      clear hpt ht rx rc hg hjn hrd
      go_upto_region 7 with (refine Go.Proofs.YtfkokbeloenfdaaDoor.blk.wpList_store_blk rfl 33 (.tmp 6) (.tmp 37) rfl wr.heap.size #[.int .i64 x0, .int .i64 x1, .int .i64 x2, .int .i64 x3, .int .i64 x4, .int .i64 x5, x6] rfl rfl HBZ.out szTask rfl hone ?_; intro w6 hb6 hc6; have HB6 := Lib.hid hb6; have HC6 : Hid (Chg [] wr w6) := Lib.hid (((Chg.refl [] wr).alloc _).into hc6 (fun y hy => .inr (by rw [List.mem_singleton.1 hy]; exact Nat.le_refl _))); clear hb6 hc6)
      have HK6 := Lib.hid (HK.out.1.fresh HC6.out)
      have HPL : Hid (∀ y ∈ blk q'.pa, y < wr.heap.size) := Lib.hid (fun y hy => HK.out.1.lt y (List.mem_append_left _ (by simp only [KQ.rest, List.mem_cons, List.mem_append]; exact .inr (.inr (.inr (.inl (.inr hy)))))))
      have FB : Hid (∀ V, Chg (blk q'.pa) w6 V → V.cell? ⟨kb, 1, none⟩ = some (.slice q'.pa j q'.pc) ∧ V.cell? ⟨wr.heap.size, 1, none⟩ = some (.int .i64 x1)) := Lib.hid (fun V hV => (by
        have e1 := HK6.out.cells.1.2.1
        rw [HLN.out] at e1
        refine ⟨hV.keep e1 (fun hm => own_type HK6.out.rp HK6.out.box (by decide) kb (by rw [own_slice]; exact Option.mem_toList.1 hm) rfl), hV.keep (HB6.out.cell (o := 1) rfl) (fun hm => by have h9 := HPL.out _ hm; simp only at h9; omega)⟩))
      clear y0 y1 y2 y3 y4 y5 y6
      have hHeld : (fun V : World => Hid (Chg (blk q'.pa) w6 V)) (World.drew w6) := Lib.hid (Chg.refl _ _).drew
      refine wp_region_planT (fun V : World => Hid (Chg (blk q'.pa) w6 V)) 11 [(0, true, some 38), (1, true, some 39), (2, true, some 40), (3, true, some 41), (4, true, some 42), (5, true, some 43), (6, true, some 44), (7, false, some 45), (8, false, some 46), (9, true, some 47), (10, true, some 48)] (by kernel_rfl) (by kernel_rfl) (by kernel_rfl) (by kernel_rfl) (by kernel_rfl) (fun d c a v w h => by cases d <;> exact h) hHeld ?_
      repeat (first
        | (refine planT_read (v := ?_) rfl rfl ?_ ?_ ?_; rotate_left; (focus rfl); (focus (intro u hSw; (try dsimp only at hSw); obtain ⟨h1, h2⟩ := FB.out u hSw.out; go_simp; (try with_reducible rfl))); (try simp only [Act.put, List.setIfInBounds_toArray, List.set_cons_zero, List.set_cons_succ])))
      refine planT_do rfl rfl ?_ (fun K hK => ?_)
      focus rfl
      go_simp
      go_wp2_with fail
      refine hK.out _ _ ?_ (fun hHeld2 => ?_)
      focus exact Lib.hid (hHeld.out.alloc _)
      clear hK K
      try simp only [Act.put, List.setIfInBounds_toArray, List.set_cons_zero, List.set_cons_succ]
      have HOA : Hid ((w6.drew.alloc (.cells #[.int .i64 x1] 3)).ownsRow w.heap.size 3 1 (.slice q'.pa j q'.pc) j (intV (kn0 l j).prio)) := Lib.hid (by
        have h1 := HK6.out.rp
        rw [HLN.out] at h1
        exact own_keep h1 (((Chg.refl [] w6).drew).alloc _) (by simp))
      have HBN := Lib.hid (Blk.new w6.drew #[.int .i64 x1] 3)
      obtain ⟨i0, hi0, hz0, hz1, hz2⟩ := info_parts infoInt
      refine planT_do rfl rfl ?_ (fun K hK => ?_)
      focus rfl
      refine wp_append_row (o := ⟨some 46, _, _, _, _, _⟩) (.tmp 42) (.tmp 45) 44 rfl w.heap.size 3 i0 (.int .i64 0) 1 8 Tryd.underlying44 hi0 hz0 hz1 hz2 rfl (by decide) (.slice q'.pa j q'.pc) j (intV (kn0 l j).prio) rfl HOA.out w6.drew.heap.size [.int .i64 x1] rfl rfl (fun j u hu => HBN.out.cell (by rw [← Array.getElem?_toList]; exact hu)) (by simp [Value.oneCell']) (by have h1 := HR.out.2.1.2; have h2 := HN.out; have h3 := HJN2.out; unfold maxLen; omega) (by have h1 := HR.out.2.1.2; have h2 := HN.out; have h3 := HJN2.out; omega) (by have h1 := HK.out.2.2.size; have h2 := HC6.out.size; simp; omega) ?_
      intro v' w7 hown' hgrow hblk
      have HOW := Lib.hid hown'
      have HG7 : Hid (Chg (blk q'.pa) w6 w7) := Lib.hid ((((Chg.refl _ w6).drew).alloc _).grown hgrow (fun z hz => .inl (Option.mem_toList.2 (by rw [own_slice] at hz; exact hz))))
      have HNB : Hid (∀ y, v'.ownBlock = some y → y ∈ blk q'.pa ∨ w6.heap.size ≤ y) := Lib.hid (fun y hy => by
        rcases hblk y hy with h | h
        · rw [own_slice] at h; exact .inl (Option.mem_toList.2 h)
        · refine .inr ?_
          rw [h]; simp)
      obtain ⟨a2', c2', rfl⟩ := own_open hown'
      refine hK.out _ _ ?_ (fun hHeld3 => ?_)
      focus exact HG7
      clear hown' hgrow hblk hK K hHeld2 hHeld3 hHeld
      try simp only [Act.put, List.setIfInBounds_toArray, List.set_cons_zero, List.set_cons_succ]
      repeat (first
        | (refine planT_read (v := ?_) rfl rfl ?_ ?_ ?_; rotate_left; (focus rfl); (focus (intro u hSw; go_simp; (try with_reducible rfl))); (try simp only [Act.put, List.setIfInBounds_toArray, List.set_cons_zero, List.set_cons_succ])))
      refine planT_last rfl rfl (fun K hK => ?_)
      have hb7 := HK6.out.box.keep HG7.out (fun hm => own_type HK6.out.rp HK6.out.box (by decide) kb (by rw [own_slice]; exact Option.mem_toList.1 hm) rfl)
      have f1 := hb7.free 1
      have b1 : w7.cell? ⟨kb, 1, none⟩ = some (.slice q'.pa j q'.pc) := by rw [← HLN.out]; exact hb7.cell rfl
      clear hb7
      go_wp2
      refine hK.out _ _ ?_
      clear hK K b1 f1
      have hpl : ((kn0 l j).prio ++ [x1]).length = j + 1 := by rw [List.length_append, HLN.out]; rfl
      have HK8 : Hid (KAt (w7.setCell ⟨kb, 1, none⟩ (.slice a2' (j + 1) c2')) w.heap.size kb 0 { kn0 l j with prio := (kn0 l j).prio ++ [x1] } { q' with pa := a2', pc := c2' }) := Lib.hid (by
        have h1 := HK6.out.growPrio HG7.out x1 a2' c2' (fun y hy hm => HK6.out.dj y hm (by simp only [KQ.rest, List.mem_cons, List.mem_append]; exact .inr (.inr (.inr (.inl (.inr hy)))))) (by
          rw [hpl]
          have h2 := HOW.out
          have h3 : intV ((kn0 l j).prio ++ [x1]) = intV (kn0 l j).prio ++ [.int .i64 x1] := by simp [intV]
          rw [h3]; exact h2) (fun y hy => HNB.out y (by rw [own_slice]; exact Option.mem_toList.1 hy))
        rw [hpl] at h1
        exact h1)
      have HB8 : Hid (Blk (w7.setCell ⟨kb, 1, none⟩ (.slice a2' (j + 1) c2')) wr.heap.size #[.int .i64 x0, .int .i64 x1, .int .i64 x2, .int .i64 x3, .int .i64 x4, .int .i64 x5, x6] 33) := Lib.hid ((HB6.out.keep HG7.out (fun hm => by have h9 := HPL.out _ hm; omega)).set_ne (b' := kb) (by have h9 := HK.out.1.box.lt; omega) 1 none _)
      have HC8 : Hid (Chg [] w (w7.setCell ⟨kb, 1, none⟩ (.slice a2' (j + 1) c2'))) := Lib.hid (((HK.out.2.2.trans HC6.out).into HG7.out (fun y hy => .inr (HK.out.2.1 y (List.mem_append_left _ (by simp only [KQ.rest, List.mem_cons, List.mem_append]; exact .inr (.inr (.inr (.inl (.inr hy))))))))).setCell (.inr (HK.out.2.1 kb (by simp [KQ.all, KQ.rest]))) _)
      have HN8 : Hid (∀ y ∈ ({ q' with pa := a2', pc := c2' } : KQ).all kb, w.heap.size ≤ y) := Lib.hid (fun y hy => by
        rcases List.mem_append.1 hy with h1 | h1
        · rcases KQ.mem h1 with h2 | h2 | h2 | h2 | h2 | h2
          · exact HK.out.2.1 y (List.mem_append_left _ (by simp [KQ.rest, h2]))
          · exact HK.out.2.1 y (List.mem_append_left _ (by simp only at h2; simp [KQ.rest, h2]))
          · exact HK.out.2.1 y (List.mem_append_left _ (by simp only at h2; simp [KQ.rest, h2]))
          · exact HK.out.2.1 y (List.mem_append_left _ (by simp only at h2; simp [KQ.rest, h2]))
          · rcases HNB.out y (by rw [own_slice]; exact h2) with h3 | h3
            · exact HK.out.2.1 y (List.mem_append_left _ (by simp only [KQ.rest, List.mem_cons, List.mem_append]; exact .inr (.inr (.inr (.inl (.inr h3))))))
            · have h4 := HK.out.2.2.size; have h5 := HC6.out.size; omega
          · exact HK.out.2.1 y (List.mem_append_left _ (by simp only at h2; simp [KQ.rest, h2]))
        · exact HK.out.2.1 y (List.mem_append_right _ h1))
      obtain ⟨w8, hw8⟩ : ∃ z, w7.setCell ⟨kb, 1, none⟩ (.slice a2' (j + 1) c2') = z := ⟨_, rfl⟩
      rw [hw8] at HK8 HB8 HC8 ⊢
      obtain ⟨q8, hq8⟩ : ∃ z, ({ q' with pa := a2', pc := c2' } : KQ) = z := ⟨_, rfl⟩
      rw [hq8] at HK8 HN8
      have y0 := HB8.out.cell (o := 0) rfl
      have y1 := HB8.out.cell (o := 1) rfl
      have y2 := HB8.out.cell (o := 2) rfl
      have y3 := HB8.out.cell (o := 3) rfl
      have y4 := HB8.out.cell (o := 4) rfl
      have y5 := HB8.out.cell (o := 5) rfl
      have y6 := HB8.out.cell (o := 6) rfl
      have d3 := HK8.out.cells.1.2.2.2
      clear hw8 hq8 hpl
      rcases hki with rfl | ⟨rfl, rfl⟩
      · have HPU := Lib.hid (fun V (hV : Chg [] w8 V) => Push_any w.heap.size q8.ab (l.length : Int) q8.da q8.dc (newD l j) x3 (j : Int) V ((HK8.out.fresh hV).ag) of0 (by omega) (by have h1 := HNA.out.1; have h2 := HR.out.2.1.2; omega) (by have h1 := HC8.out.size; have h2 := hV.size; omega))
        simp only [if_true, decide_true] at HNX
        go_wp2_with (first
          | (go_at_call 22; with_reducible refine (HNX.out _).mono ?_; rintro e w9 ⟨rfl, hc9⟩; have HC9 := Lib.hid hc9; have d3' := hc9.keep d3 (by simp); clear hc9)
          | (go_at_call 23; with_reducible refine (HPU.out _ HC9.out).mono ?_; rintro e w10 ⟨⟨rv, rfl⟩, ⟨a7, c7, ha7, hs7⟩, hc7⟩; have HA7 := Lib.hid (⟨ha7, hs7⟩ : _ ∧ _); have HC10 := Lib.hid hc7; clear ha7 hs7 hc7))
        have hkn : kn0 l (j + 1) = { ({ kn0 l j with prio := (kn0 l j).prio ++ [x1] } : Kn) with due := pushM (l.length : Int) (newD l j) ⟨x3, j⟩ } := by
          unfold kn0
          rw [HTK.out, HND.out, List.map_append]
          rfl
        have hc10 : Chg (q8.ab :: blk q8.da) w9 w10 := by
          have h1 := HC10.out
          rw [own_slice] at h1
          exact h1
        have hk9 := HK8.out.fresh HC9.out
        have hk10 := hk9.withAg hc10 (pushM (l.length : Int) (newD l j) ⟨x3, j⟩) a7 c7 HA7.out.1 (fun y hy => by
          rcases HA7.out.2 y (by rw [own_slice]; exact Option.mem_toList.1 hy) with h1 | h1
          · rw [own_slice] at h1; exact .inl (Option.mem_toList.2 h1)
          · exact .inr h1)
        have hsz9 : w.heap.size ≤ w9.heap.size := Nat.le_trans HC8.out.size HC9.out.size
        refine ⟨⟨j + 1, { q8 with da := a7, dc := c7 }, by simp, Lib.hid (by have := HJN2.out; omega), Lib.hid ⟨by rw [hkn]; exact hk10, fun y hy => ?_, (HC8.out.trans HC9.out).into hc10 (fun y hy => .inr (HN8.out y ?_))⟩⟩, ?_⟩
        · rcases List.mem_append.1 hy with h1 | h1
          · rcases KQ.mem h1 with h2 | h2 | h2 | h2 | h2 | h2
            · exact HN8.out y (List.mem_append_left _ (by simp [KQ.rest, h2]))
            · exact HN8.out y (List.mem_append_left _ (by simp only at h2; simp [KQ.rest, h2]))
            · exact HN8.out y (List.mem_append_left _ (by simp only at h2; simp [KQ.rest, h2]))
            · exact HN8.out y (List.mem_append_left _ (by simp only at h2; simp [KQ.rest, h2]))
            · exact HN8.out y (List.mem_append_left _ (by simp only at h2; simp [KQ.rest, h2]))
            · rcases HA7.out.2 y (by rw [own_slice]; exact h2) with h3 | h3
              · rw [own_slice] at h3
                exact HN8.out y (List.mem_append_left _ (by simp [KQ.rest, h3]))
              · omega
          · exact HN8.out y (List.mem_append_right _ h1)
        · refine List.mem_append_left _ ?_
          rcases List.mem_cons.1 hy with rfl | hy
          · simp [KQ.rest]
          · simp only [KQ.rest, List.mem_cons, List.mem_append]; exact .inr (.inr (.inr (.inr hy)))
        · have := HJN2.out
          simp [intOf]
          omega
      · have HNY : Hid (∀ V, Calls Tryd.prog 22 #[.agg #[.int .i64 2, .int .i64 x1, .int .i64 x2, .int .i64 0, .int .i64 x4, .int .i64 x5, x6], .int .i64 0] V fun e w' => e = .returned (.tuple #[.int .i64 0, .bool false]) ∧ Chg [] V w') := Lib.hid (fun V => HNX.out V)
        clear HNX
        go_wp2_with (go_at_call 22; with_reducible refine (HNY.out _).mono ?_; rintro e w9 ⟨rfl, hc9⟩; have HC9 := Lib.hid hc9; clear hc9)
        have hkn : kn0 l (j + 1) = { kn0 l j with prio := (kn0 l j).prio ++ [x1] } := by
          unfold kn0
          rw [HTK.out, HND.out, List.map_append]
          rfl
        refine ⟨⟨j + 1, q8, by simp, Lib.hid (by have := HJN2.out; omega), Lib.hid ⟨by rw [hkn]; exact HK8.out.fresh HC9.out, HN8.out, HC8.out.trans HC9.out⟩⟩, ?_⟩
        have := HJN2.out
        simp [intOf]
        omega
    · have HJE : Hid (j = n) := Lib.hid (by have := HJ.out; omega)
      have m3 : ¬ (j : Int) < (n : Int) := by omega
      clear hjn
      go_wp2
      refine bodyPost_ret (results_tmp2 rfl _ _ _) rfl ?_
      have h1 := HK.out
      rw [HJE.out, ← HN.out] at h1
      rw [HN.out] at h1
      exact ⟨kb, rfl, q', h1.1, h1.2.1, h1.2.2⟩
end Go.Proofs.YtfkokbeloenfdaaDoor.krn
