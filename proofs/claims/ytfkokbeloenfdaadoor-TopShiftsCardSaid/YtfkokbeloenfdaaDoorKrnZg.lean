/- The kernel: Run. -/
import Derived.Test.YtfkokbeloenfdaaDoorKrnZf
import Derived.Test.YtfkokbeloenfdaaDoorKrnZi
namespace Go.Proofs.YtfkokbeloenfdaaDoor.krn
open Go Go.RowKit Go.Proofs.YtfkokbeloenfdaaDoor.kit Go.Shelf
set_option linter.unusedVariables false
set_option linter.unusedSimpArgs false
set_option maxRecDepth 20000
def DuV (l : List Du) : List Value := l.flatMap Du.cells
theorem evs_one (l : List Ev) : ∀ u ∈ l.flatMap Ev.cells, u.oneCell' = true := by
  intro u hu
  obtain ⟨e, -, he⟩ := List.mem_flatMap.1 hu
  simp only [Ev.cells, List.mem_cons, List.not_mem_nil, or_false] at he
  rcases he with rfl | rfl | rfl | rfl | rfl <;> rfl
theorem OwnE.more {w : World} {B c : Nat} {a : Option Addr} {xs ys : List Ev} (h : w.ownsRow B 41 5 (.slice a (xs.length + ys.length) c) (xs.length + ys.length) (xs.flatMap Ev.cells ++ ys.flatMap Ev.cells)) : OwnE w B (.slice a (xs ++ ys).length c) (xs ++ ys) := by
  rw [← List.length_append, ← List.flatMap_append] at h
  exact h
theorem OwnE.more2 {w : World} {B c : Nat} {a : Option Addr} {xs ys zs : List Ev} (h : w.ownsRow B 41 5 (.slice a (xs.length + ys.length + zs.length) c) (xs.length + ys.length + zs.length) (xs.flatMap Ev.cells ++ ys.flatMap Ev.cells ++ zs.flatMap Ev.cells)) : OwnE w B (.slice a (xs ++ ys ++ zs).length c) (xs ++ ys ++ zs) := by
  rw [← List.length_append, ← List.length_append, ← List.flatMap_append, ← List.flatMap_append] at h
  exact h
set_option maxHeartbeats 8000000 in
theorem Run_any (sv av dv : Value) (l : List Tk) (asks : List Du) (dem : List (List Int)) (ticks : Nat) (w : World) (h : Reads w 7 sv l.length (TkV l)) (hl : 1 ≤ l.length ∧ l.length ≤ 8) (hp : ∀ t ∈ l, PlainT t ∧ t.code.oneCell' = true)
    (ha : Reads w 2 av asks.length (DuV asks)) (hal : asks.length ≤ 300) (ha64 : ∀ d ∈ asks, I64 d.at_ ∧ I64 d.task) (hd : DemAt w dv dem) (htk : ticks ≤ 600) (hT : bitm.Tab w) :
    Calls Tryd.prog 7 #[sv, av, dv, .int .i64 (ticks : Int)] w fun e w' => ∃ v, e = .returned (.tuple #[v, .int .i64 0]) ∧ OwnE w' w.heap.size v (runP l (askAt asks) dem ticks).2 ∧ Chg [] w w' := by
  have HNW := Lib.hid (New_any sv l w h hl hp)
  have HR := Lib.hid (⟨hl, hp, ha, hal, ha64, hd, htk, hT⟩ : _ ∧ _ ∧ _ ∧ _ ∧ _ ∧ _ ∧ _ ∧ _)
  obtain ⟨sa, sc, rfl⟩ := reads_open h
  obtain ⟨aa, ac, rfl⟩ := reads_open ha
  obtain ⟨na, hna⟩ : ∃ z, asks.length = z := ⟨_, rfl⟩
  rw [hna] at HR ⊢
  have HNA := Lib.hid hna
  have m1 : ¬ (ticks : Int) < 0 := by omega
  have m2 : ¬ (65536 : Int) < (ticks : Int) := by omega
  have hmk : ∀ W : World, (Instr.makeMap 55 none).run Tryd.prog W = .ok (.map (some W.heap.size)) (W.alloc (.map #[] 0)) := fun W => run_makeMap _ W
  clear h hl hp ha hal ha64 hd htk hT hna
  go_enter Tryd.func7, Tryd.ntmps7
  go_wp2_with (go_at_call 10; refine HNW.out.mono ?_; rintro e w1 ⟨kb, q, rfl, hk, hn, hc⟩; have HK1 := Lib.hid (⟨hk, hn, hc⟩ : _ ∧ _ ∧ _); clear hk hn hc)
  obtain ⟨w2, hw2⟩ : ∃ z, w1.alloc (.map #[] 0) = z := ⟨_, rfl⟩
  have HG0 : Hid (GrpI w2 (w1.heap.size + 1) w1.heap.size 0 (askAt (asks.take 0))) := Lib.hid (by rw [← hw2]; exact GrpI.made w1)
  have HC2 : Hid (Chg [] w1 w2) := Lib.hid (by rw [← hw2]; exact (Chg.refl [] w1).alloc _)
  rw [hw2]
  clear hw2
  go_loopw [39] (fun p wr => ∃ j : Nat, p = .int .i64 (j : Int) ∧ Hid (j ≤ na) ∧ Hid (GrpI wr (w1.heap.size + 1) w1.heap.size j (askAt (asks.take j))) ∧ Hid (Chg [] w1 wr)) (fun p _ => na - (intOf p).toNat)
  case atStart => exact ⟨0, rfl, Lib.hid (by omega), HG0, HC2⟩
  case round =>
    obtain ⟨j, rfl, HJ, HG, HC⟩ := hrel
    by_cases hjn : j < na
    · have m3 : (j : Int) < (na : Int) := by omega
      obtain ⟨d, hd⟩ : ∃ d, asks[j]? = some d := ⟨_, List.getElem?_eq_getElem (by rw [HNA.out]; exact hjn)⟩
      have HTK : Hid (askAt (asks.take (j + 1)) = fun t => if t = d.at_ then askAt (asks.take j) d.at_ ++ [d.task] else askAt (asks.take j) t) := Lib.hid (by rw [List.take_add_one, hd]; exact askAt_snoc _ _)
      have h64 := HR.out.2.2.2.2.1 d (List.mem_of_getElem? hd)
      obtain ⟨rb, ro, rx, rc, -⟩ := reads_index (P := Tryd.prog) Tryd.underlying23 szDue ((HR.out.2.2.1.fresh HK1.out.2.2).fresh HC.out)
      have ix := rx j hjn
      have y0 := rc (j * 2 + 0) (.int .i64 d.at_) (by unfold DuV; rw [flatMap_get Du.cells 2 (fun _ => rfl) asks j 0 (by decide) _ hd]; rfl)
      have y1 := rc (j * 2 + 1) (.int .i64 d.task) (by unfold DuV; rw [flatMap_get Du.cells 2 (fun _ => rfl) asks j 1 (by decide) _ hd]; rfl)
      simp only [Nat.add_zero, ← Nat.add_assoc] at y0 y1
      obtain ⟨at_, tk⟩ := d
      simp only at h64 y0 y1 HTK
      have HI := Lib.hid h64
      have HJN := Lib.hid hjn
      have h63 : ¬ (j : Int) + 1 > 9223372036854775807 := by have := HR.out.2.2.2.1; omega
      have HBZ := Lib.hid (Blk.new wr #[.int .i64 0, .int .i64 0] 35)
      clear hd rx rc hjn h64
      go_upto_region 8 with (refine Go.Proofs.YtfkokbeloenfdaaDoor.blk.wpList_store_blk rfl 35 (.tmp 14) (.tmp 42) rfl wr.heap.size #[.int .i64 at_, .int .i64 tk] rfl rfl HBZ.out szDue rfl (by simp [Value.oneCell']) ?_; intro w6 hb6 hc6; have HB6 := Lib.hid hb6; have HC6 : Hid (Chg [] wr w6) := Lib.hid (((Chg.refl [] wr).alloc _).into hc6 (fun y hy => .inr (by rw [List.mem_singleton.1 hy]; exact Nat.le_refl _))); clear hb6 hc6)
      obtain ⟨wb, hwb⟩ : ∃ z, w6.drew.alloc (.cells #[.int .i64 tk] 3) = z := ⟨_, rfl⟩
      have HCB : Hid (Chg [] w6 wb) := Lib.hid (by rw [← hwb]; exact ((Chg.refl [] w6).drew).alloc _)
      have hmlt : w1.heap.size < wr.heap.size := by obtain ⟨D, ⟨es, ck, hb, -⟩, -⟩ := HG.out; exact (Array.getElem?_eq_some_iff.1 hb).1
      have HGB : Hid (GrpI wb (w1.heap.size + 1) w1.heap.size j (askAt (asks.take j))) := Lib.hid (HG.out.of_heap ((HC6.out.trans HCB.out).block _ hmlt (by simp)) (fun y hy hy2 => (HC6.out.trans HCB.out).block y hy2 (by simp)))
      obtain ⟨v, hrun, hoi, hlen, hback⟩ := HGB.out.back (by have := HR.out.2.2.2.1; have := HJN.out; omega) HI.out.1
      obtain ⟨zs, hzs⟩ : ∃ z, askAt (asks.take j) at_ = z := ⟨_, rfl⟩
      rw [hzs] at hoi hlen hback
      have HZ := Lib.hid hzs
      have HLK : Hid (∀ V : World, V.heap[w1.heap.size]? = w6.heap[w1.heap.size]? → (Instr.lookup 55 (.map (some w1.heap.size)) (.int .i64 at_) false).run Tryd.prog V = .ok v V) := Lib.hid (fun V hV => HGB.out.same (hV.trans (HCB.out.block _ (Nat.lt_of_lt_of_le hmlt HC6.out.size) (by simp)).symm) HI.out.1 hrun)
      have HBK := Lib.hid hback
      have HOI := Lib.hid (⟨hoi, hlen⟩ : _ ∧ _)
      have HML := Lib.hid hmlt
      obtain ⟨va, vc, rfl⟩ := own_open hoi.1
      clear hrun hoi hlen hback hzs hmlt y0 y1
      have hHeld : (fun V : World => Hid (V.heap[w1.heap.size]? = w6.heap[w1.heap.size]? ∧ V.cell? ⟨wr.heap.size, 0, none⟩ = some (.int .i64 at_) ∧ V.cell? ⟨wr.heap.size, 1, none⟩ = some (.int .i64 tk))) (World.drew w6) := Lib.hid ⟨rfl, HB6.out.cell (o := 0) rfl, HB6.out.cell (o := 1) rfl⟩
      refine wp_region_planT (fun V : World => Hid (V.heap[w1.heap.size]? = w6.heap[w1.heap.size]? ∧ V.cell? ⟨wr.heap.size, 0, none⟩ = some (.int .i64 at_) ∧ V.cell? ⟨wr.heap.size, 1, none⟩ = some (.int .i64 tk))) 11 [(0, true, some 43), (1, true, some 44), (2, true, some 45), (3, true, some 46), (4, true, some 47), (5, true, some 48), (6, true, some 49), (7, true, some 50), (8, true, some 51), (9, false, some 52), (10, false, some 53)] (by kernel_rfl) (by kernel_rfl) (by kernel_rfl) (by kernel_rfl) (by kernel_rfl) (fun d c a v w h => by cases d <;> exact h) hHeld ?_
      repeat (first
        | (refine planT_read (v := ?_) rfl rfl ?_ ?_ ?_; rotate_left; (focus rfl); (focus (intro u hSw; (try dsimp only at hSw); obtain ⟨h1, h2, h3⟩ := hSw.out; have h4 := HLK.out u h1; go_simp; (try with_reducible rfl))); (try simp only [Act.put, List.setIfInBounds_toArray, List.set_cons_zero, List.set_cons_succ])))
      refine planT_do rfl rfl ?_ (fun K hK => ?_)
      focus rfl
      go_simp
      go_wp2_with fail
      try rw [hwb]
      have hs52 : w6.drew.heap.size = w6.heap.size := by simp
      have HWB := Lib.hid hwb
      refine hK.out _ _ ?_ (fun hHeld2 => ?_)
      focus exact Lib.hid ⟨HCB.out.block _ (Nat.lt_of_lt_of_le HML.out HC6.out.size) (by simp), (HB6.out.keep HCB.out (by simp)).cell (o := 0) rfl, (HB6.out.keep HCB.out (by simp)).cell (o := 1) rfl⟩
      clear hK K hHeld hHeld2
      try simp only [Act.put, List.setIfInBounds_toArray, List.set_cons_zero, List.set_cons_succ]
      have HBN : Hid (Blk wb w6.heap.size #[.int .i64 tk] 3) := Lib.hid (by rw [← hwb, ← hs52]; exact Blk.new w6.drew _ _)
      clear hwb hs52
      obtain ⟨i0, hi0, hz0, hz1, hz2⟩ := info_parts infoInt
      refine planT_do rfl rfl ?_ (fun K hK => ?_)
      focus rfl
      refine wp_append_row (o := ⟨some 53, _, _, _, _, _⟩) (.tmp 49) (.tmp 52) 44 rfl (w1.heap.size + 1) 3 i0 (.int .i64 0) 1 8 Tryd.underlying44 hi0 hz0 hz1 hz2 rfl (by decide) (.slice va zs.length vc) zs.length (zs.map (Value.int .i64)) rfl HOI.out.1.1 w6.heap.size [.int .i64 tk] rfl rfl (fun j u hu => HBN.out.cell (by rw [← Array.getElem?_toList]; exact hu)) (by simp [Value.oneCell']) (by have h1 := HOI.out.2; have h2 := HR.out.2.2.2.1; have h3 := HJN.out; unfold maxLen; omega) (by have h1 := HOI.out.2; have h2 := HR.out.2.2.2.1; have h3 := HJN.out; omega) (by have h1 := HML.out; have h2 := HC6.out.size; have h3 := HCB.out.size; omega) ?_
      intro v' w8 hown' hgrow hblk
      have hoi8 := HOI.out.1.appended hown' HI.out.2
      obtain ⟨w9, hrun9, hg9, hgr9⟩ := HBK.out w8 v' tk hgrow hoi8 (by
        cases hv : v'.ownBlock with
        | none => 
          have := World.ownsRow.lt hown'
          rcases hown'.2 with ⟨rfl, h0⟩ | ⟨g, cap, cur, rfl, -⟩
          · simp at h0
          · simp [Value.ownBlock] at hv
        | some y =>
          rcases hblk y hv with h | h
          · exact .inl (by rw [hv] at *; exact h.symm)
          · exact .inr ⟨y, rfl, by omega⟩)
      have hrow : ∀ y, (Value.slice va zs.length vc).ownBlock = some y → w1.heap.size + 1 ≤ y := fun y hy => (World.ownsRow.lt HOI.out.1.1 y hy).1
      have hm8 : w8.heap[w1.heap.size]? = w6.heap[w1.heap.size]? := (hgrow.block _ (Nat.lt_of_lt_of_le (Nat.lt_of_lt_of_le HML.out HC6.out.size) HCB.out.size) (fun he => by have := hrow _ he.symm; omega)).trans (HCB.out.block _ (Nat.lt_of_lt_of_le HML.out HC6.out.size) (by simp))
      have HB8 : Blk w8 wr.heap.size #[.int .i64 at_, .int .i64 tk] 35 := ((Chg.refl ((Value.slice va zs.length vc).ownBlock.toList) wb).grown hgrow (fun z hz => .inl (Option.mem_toList.2 hz))).heap (HB6.out.keep HCB.out (by simp)) (fun hm => own_type HOI.out.1.1 (HB6.out.keep HCB.out (by simp)) (by decide) _ (Option.mem_toList.1 hm) rfl)
      have HC9 : Hid (Chg [] w1 w9) := Lib.hid ((((HC.out.trans HC6.out).trans HCB.out).grown hgrow (fun z hz => .inr (by have := hrow z hz; omega))).grown hgr9 (fun z hz => .inr (by cases hz; exact Nat.le_refl _)))
      have HG9 := Lib.hid hg9
      refine hK.out _ _ ?_ (fun hHeld3 => ?_)
      focus exact Lib.hid ⟨hm8, HB8.cell (o := 0) rfl, HB8.cell (o := 1) rfl⟩
      clear hK K hHeld3 hm8 HB8 hrow hgrow hblk hoi8 hown' hg9 hgr9
      try simp only [Act.put, List.setIfInBounds_toArray, List.set_cons_zero, List.set_cons_succ]
      refine planT_last rfl rfl (fun K hK => ?_)
      go_wp2
      refine hK.out _ _ ?_
      clear hK K hrun9
      go_wp2
      go_roundw
      case rel =>
        refine ⟨j + 1, by simp, Lib.hid (by have := HJN.out; omega), Lib.hid ?_, HC9⟩
        have h1 := HG9.out
        rw [← HZ.out] at h1
        rw [HTK.out]
        exact h1
      case measure =>
        have := HJN.out
        simp [intOf]
        omega
    · have HJE : Hid (j = na) := Lib.hid (by have := HJ.out; omega)
      have m3 : ¬ (j : Int) < (na : Int) := by omega
      have HGE : Hid (GrpI wr (w1.heap.size + 1) w1.heap.size na (askAt asks)) := Lib.hid (by
        have h1 := HG.out
        rw [HJE.out, ← HNA.out, List.take_length] at h1
        rw [← HNA.out]; exact h1)
      clear hjn
      go_wp2
      obtain ⟨wg, hwg⟩ : ∃ wg, wg = wr := ⟨_, rfl⟩
      subst hwg
      have HRN := Lib.hid (fun t (ht : t ≤ 2000) => run_ok l HR.out.1 (fun t ht => (HR.out.2.1 t ht).1) (askAt asks) dem t ht)
      have HSM := Lib.hid (fun t => Nat.le_trans (sumN_le asks t) (Nat.le_of_eq HNA.out))
      have HWG : Hid (w.heap.size ≤ w1.heap.size ∧ w1.heap.size ≤ wg.heap.size) := Lib.hid ⟨HK1.out.2.2.size, HC.out.size⟩
      have HKG : Hid (KAt wg w.heap.size kb 0 (kn0 l l.length) q) := Lib.hid (HK1.out.1.fresh HC.out)
      have HQ : Hid (∀ y ∈ q.all kb, w.heap.size ≤ y ∧ y < w1.heap.size) := Lib.hid (fun y hy => ⟨HK1.out.2.1 y hy, HK1.out.1.lt y hy⟩)
      have HTG : Hid (bitm.Tab wg ∧ 0 ∉ q.all kb) := Lib.hid (by
        have h0 : bitm.Tab w1 := HR.out.2.2.2.2.2.2.2.keep HK1.out.2.2
        refine ⟨h0.keep HC.out, HK1.out.1.tab h0 HR.out.2.2.2.2.2.2.2.pos⟩)
      have HBP : Hid (1 ≤ w.heap.size) := Lib.hid HR.out.2.2.2.2.2.2.2.pos
      go_loopw [15, 56] (fun ov p wr => ∃ (t : Nat) (k' : Kn) (q' : KQ) (out : List Ev) (oa : Option Addr) (oc : Nat), ov = .slice oa out.length oc ∧ p = .int .i64 (t : Int) ∧ Hid (t ≤ ticks ∧ runP l (askAt asks) dem t = (k', out)) ∧ Hid (KStep wg w.heap.size kb (8 * t + 2 * sumN (askAt asks) t) q wr k' q') ∧ Hid (OwnE wr wg.heap.size (.slice oa out.length oc) out)) (fun _ p _ => ticks - (intOf p).toNat)
      case atStart => exact ⟨0, kn0 l l.length, q, [], none, 0, rfl, rfl, Lib.hid ⟨Nat.zero_le _, rfl⟩, Lib.hid (KStep.refl HKG.out), Lib.hid ⟨rfl, .inl ⟨rfl, rfl⟩⟩⟩
      case round =>
        obtain ⟨t, k', q', out, oa, oc, rfl, rfl, HT, HS, HO⟩ := hrel
        by_cases htl : t < ticks
        · have m4 : (t : Int) < (ticks : Int) := by omega
          have HTL := Lib.hid htl
          have hrn := HRN.out t (by have := HR.out.2.2.2.2.2.2.1; omega)
          have hrs := HRN.out (t + 1) (by have := HR.out.2.2.2.2.2.2.1; omega)
          rw [runP_succ] at hrs
          rw [HT.out.2] at hrn hrs
          have HKO := Lib.hid hrn
          have HKS := Lib.hid hrs
          obtain ⟨N, hN⟩ : ∃ N, 8 * t + 2 * sumN (askAt asks) t = N := ⟨_, rfl⟩
          have HN : Hid (8 * (t + 1) + 2 * sumN (askAt asks) (t + 1) = N + 8 + 2 * (askAt asks (t : Int)).length) := Lib.hid (by rw [← hN]; show 8 * (t + 1) + 2 * (sumN (askAt asks) t + (askAt asks (t : Int)).length) = _; omega)
          have HNB : Hid (N + 8 + 2 * (askAt asks (t : Int)).length < 6000 ∧ (askAt asks (t : Int)).length ≤ 300 ∧ out.length ≤ 266 * 600 + 300) := Lib.hid (by
            have h1 := HN.out
            have h2 := HSM.out (t + 1)
            have h3 : sumN (askAt asks) (t + 1) = sumN (askAt asks) t + (askAt asks (t : Int)).length := rfl
            have h4 := HR.out.2.2.2.1
            have h5 := HR.out.2.2.2.2.2.2.1
            have h6 := hrn.2.2.2
            have h7 : out.length ≤ 266 * t + sumN (askAt asks) t := h6
            clear hrn hrs h6
            refine ⟨?_, ?_, ?_⟩
            · omega
            · omega
            · omega)
          rw [hN] at HS HKO
          have h64 : I64 (t : Int) := i64_of (by omega) (by have := HR.out.2.2.2.2.2.2.1; omega)
          obtain ⟨v, hlk, hoi, -⟩ := HGE.out.look (by have := HR.out.2.2.2.1; omega) h64
          obtain ⟨va, vc, rfl⟩ := own_open hoi.1
          have hlow : ∀ y ∈ q'.all kb, y < w1.heap.size ∨ wg.heap.size ≤ y := fun y hy => by
            rcases HS.out.sub y hy with h1 | h1
            · exact .inl (HQ.out y h1).2
            · exact .inr h1
          have hlt1 : w1.heap.size < wg.heap.size := by obtain ⟨D, ⟨es, ck, hb, -⟩, -⟩ := HGE.out; exact (Array.getElem?_eq_some_iff.1 hb).1
          have hlk2 := HGE.out.same (V := wr) (HS.out.chg.block _ hlt1 (fun hm => by have := (HQ.out _ hm).2; omega)) h64 hlk
          have hoi2 := ints_of_heap hoi (w' := wr) (fun y h1 h2 => HS.out.chg.block y h2 (fun hm => by have := (HQ.out _ hm).2; omega))
          have htb := HS.out.tab HTG.out.1 HTG.out.2
          have HOPN := Lib.hid (Open_any w.heap.size kb N k' q' (.slice va (askAt asks (t : Int)).length vc) (askAt asks (t : Int)) wr HS.out.at_ HKO.out.1 htb.1 HKO.out.2.2.1 ⟨by have h1 := HWG.out; have h2 := HS.out.chg.size; omega, HBP.out⟩ (by have := HNB.out; omega) (Reads.of_own hoi2.1 (by decide)) (fun b hb => by
            have h1 := World.ownsRow.lt hoi.1 b hb
            refine ⟨fun hm => ?_, (World.ownsRow.lt hoi2.1 b hb).2⟩
            rcases hlow b hm with h2 | h2 <;> omega))
          have hom := openM_ok HKO.out.1 (askAt asks (t : Int))
          have hol := openM_len HKO.out.1 (askAt asks (t : Int))
          obtain ⟨⟨k3, ev3⟩, ho3⟩ : ∃ z, openM k' (askAt asks (t : Int)) = z := ⟨_, rfl⟩
          rw [ho3] at HOPN hom hol
          have HOM := Lib.hid (⟨hom, hol⟩ : _ ∧ _)
          obtain ⟨i, hi, hi20⟩ := pick_nat hom.1
          have hgf := get_fit hom.1 i
          have HTM : Hid (tickM dem (askAt asks) (k', out) t = ((closeM k3 (k3.led.get i).steps (decide (stepsM dem i (k3.led.get i).no ≤ (k3.led.get i).steps + 1))).1, out ++ (ev3 ++ (closeM k3 (k3.led.get i).steps (decide (stepsM dem i (k3.led.get i).no ≤ (k3.led.get i).steps + 1))).2))) := Lib.hid (by unfold tickM; simp only [ho3, hi, Int.toNat_natCast])
          obtain ⟨na2, hna2⟩ : ∃ z, (askAt asks (t : Int)).length = z := ⟨_, rfl⟩
          rw [hna2] at HOPN HOM HNB HN hlk2
          obtain ⟨⟨x0, x1, x2, x3, x4, x5, x6, x7⟩, hx⟩ : ∃ x, k3.led.get i = x := ⟨_, rfl⟩
          rw [hx] at hgf HTM
          simp only at hgf HTM
          have HPK := Lib.hid (fun V qq (hV : KStep wg w.heap.size kb (N + 8 + 2 * na2) q V k3 qq) => PickK_any w.heap.size kb (N + 8 + 2 * na2) k3 qq V hV.at_ HOM.out.1.1 (hV.tab HTG.out.1 HTG.out.2).1 HOM.out.1.2.2.2)
          have HJB := Lib.hid (fun V qq (hV : KStep wg w.heap.size kb (N + 8 + 2 * na2) q V k3 qq) => Job_any w.heap.size qq.lb (N + 8 + 2 * na2) k3.led qq.lq i V hV.at_.led HOM.out.1.1.led hi20)
          rw [hi] at HPK
          rw [hx] at HJB
          obtain ⟨i0, hi0, hz0, hz1, hz2⟩ := info_parts infoEv
          have HX := Lib.hid (⟨hgf, hi20⟩ : _ ∧ _)
          clear htl hrn hrs hN h64 hlk hoi hlow hlt1 hoi2 htb hom hol ho3 hi hi20 hgf hna2 hx
          go_upto_region 17 with (first
            | (go_at_call 11; refine HOPN.out.mono ?_; rintro e w3 ⟨v3, rfl, ho3, ⟨q3, hs3⟩, -⟩; obtain ⟨oa3, oc3, rfl⟩ := own_open ho3; have HO3 := Lib.hid ho3; have HS3 := Lib.hid (HS.out.trans hs3); have HO2 : Hid (OwnE w3 wg.heap.size (.slice oa out.length oc) out) := Lib.hid (own_keep HO.out hs3.chg (fun y hy hm => HS.out.at_.ne_ev HO.out y hy hm)); clear ho3 hs3)
            | (at_builtin; refine wpList_append_any _ rfl (.tmp 59) (.tmp 64) 36 rfl wg.heap.size 41 i0 (.agg #[.int .i64 0, .int .i64 0, .int .i64 0, .int .i64 0, .int .i64 0]) 5 40 Tryd.underlying36 hi0 hz0 hz1 hz2 rfl (by decide) (.slice oa out.length oc) out.length (out.flatMap Ev.cells) rfl HO2.out (.slice oa3 ev3.length oc3) ev3.length (ev3.flatMap Ev.cells) rfl (Reads.of_own HO3.out (by decide)) (evs_one ev3) (by have h1 := HOM.out.2; have h2 := HNB.out; unfold maxLen; omega) (by have h1 := HOM.out.2; have h2 := HNB.out; omega) (by have h1 := HS3.out.chg.size; omega) ?_; intro v4 w4 hown4 hgrow4; obtain ⟨oa4, oc4, rfl⟩ := own_open hown4; have HKA := Lib.hid ((Chg.refl (Value.slice oa out.length oc).ownBlock.toList w3).grown hgrow4 (fun k hk => .inl (Option.mem_toList.2 hk))); have HO4 := Lib.hid hown4; have HS4 := Lib.hid (HS3.out.scratch HKA.out (fun y hy => ⟨(World.ownsRow.lt HO2.out y (Option.mem_toList.1 hy)).1, HS3.out.at_.ne_ev HO2.out y (Option.mem_toList.1 hy)⟩)); clear hown4 hgrow4)
            | (go_at_call 12; refine (HPK.out w4 _ HS4.out).mono ?_; rintro e w5 ⟨rfl, hc5⟩; have HC5 := Lib.hid hc5; have HS5 := Lib.hid (HS4.out.fresh hc5); have d2 := (HS4.out.fresh hc5).at_.cells.1.2.2.1; clear hc5)
            | (go_at_call 13; refine (HJB.out w5 _ HS5.out).mono ?_; rintro e w6 ⟨rfl, hc6⟩; have HC6 := Lib.hid (HC5.out.trans hc6); have HS6 := Lib.hid (HS5.out.fresh hc6); have HBZ := Lib.hid (Blk.new w6 #[.int .i64 0, .int .i64 0, .int .i64 0, .int .i64 0, .int .i64 0, .int .i64 0, .int .i64 0, .bool false] 60); clear hc6)
            | (refine Go.Proofs.YtfkokbeloenfdaaDoor.blk.wpList_store_blk rfl 60 (.tmp 19) (.tmp 78) rfl w6.heap.size #[.int .i64 x0, .int .i64 x1, .int .i64 x2, .int .i64 x3, .int .i64 x4, .int .i64 x5, .int .i64 x6, .bool x7] rfl rfl HBZ.out szJob rfl (by simp [Value.oneCell']) ?_; intro w7 hb7 hc7; have HB7 := Lib.hid hb7; have HC7 := Lib.hid ((HC6.out.alloc (.cells #[.int .i64 0, .int .i64 0, .int .i64 0, .int .i64 0, .int .i64 0, .int .i64 0, .int .i64 0, .bool false] 60)).into hc7 (fun y hy => .inr (by rw [List.mem_singleton.1 hy]; exact HC6.out.size))); clear hb7 hc7))
          have HS7 := Lib.hid (HS4.out.fresh HC7.out)
          have HO7 := Lib.hid (own_keep HO4.out HC7.out (by simp))
          have HCW : Hid (Chg [] w w7) := Lib.hid ((HK1.out.2.2.trans HC.out).into HS7.out.chg (fun y hy => .inr (HQ.out y hy).1))
          have HST := Lib.hid (fun V (hV : Chg [] w7 V) => steps_any dv dem i x1 V (HR.out.2.2.2.2.2.1.fresh (HCW.out.trans hV)) HX.out.1.2 HX.out.2)
          obtain ⟨st, hst⟩ : ∃ z, stepsM dem i x1 = z := ⟨_, rfl⟩
          rw [hst] at HST HTM
          have HCL := Lib.hid (fun V (hV : Chg [] w7 V) => Close_any w.heap.size kb (N + 8 + 2 * na2) k3 q3 x6 (decide (st ≤ x6 + 1)) V (HS7.out.fresh hV).at_ HOM.out.1.1 ((HS7.out.fresh hV).tab HTG.out.1 HTG.out.2).1 HOM.out.1.2.2.2 (Nat.le_trans HCW.out.size hV.size))
          have hcl := closeM_len k3 x6 (decide (st ≤ x6 + 1))
          obtain ⟨⟨k5, ev5⟩, hc5⟩ : ∃ z, closeM k3 x6 (decide (st ≤ x6 + 1)) = z := ⟨_, rfl⟩
          rw [hc5] at HCL HTM hcl
          have HE5 := Lib.hid hcl
          have kw : IntKind.i64.wrap (x6 + 1) = x6 + 1 := by have h1 := HX.out.1.1; rw [IntKind.wrap_i64]; omega
          clear hst hcl hc5
          have hHeld : (fun V : World => Hid (V.cell? ⟨w6.heap.size, 1, none⟩ = some (.int .i64 x1) ∧ V.cell? ⟨w6.heap.size, 6, none⟩ = some (.int .i64 x6))) (World.drew w7) := Lib.hid ⟨HB7.out.cell rfl, HB7.out.cell rfl⟩
          refine wp_region_plan (fun V : World => Hid (V.cell? ⟨w6.heap.size, 1, none⟩ = some (.int .i64 x1) ∧ V.cell? ⟨w6.heap.size, 6, none⟩ = some (.int .i64 x6))) [(0, true, some 80), (1, true, some 81), (2, true, some 82), (3, true, some 83), (4, true, some 84), (5, true, some 85), (6, true, some 86), (7, true, some 87), (8, true, some 88), (9, true, some 89), (10, true, some 90), (11, false, some 91), (12, true, some 92), (13, false, some 93), (14, false, some 94), (15, true, some 15)] (by kernel_rfl) (by kernel_rfl) (by kernel_rfl) (by kernel_rfl) (fun d c a v w h => by cases d <;> exact h) hHeld ?_
          repeat (first
            | (refine planWp_read (v := ?_) rfl rfl ?_ ?_ ?_; rotate_left; (focus rfl); (focus (intro u hSw; (try dsimp only at hSw); obtain ⟨h1, h2⟩ := hSw.out; go_simp; (try with_reducible rfl))); (try simp only [Act.put, List.setIfInBounds_toArray, List.set_cons_zero, List.set_cons_succ])))
          refine planWp_do rfl rfl ?_ (fun K hK => ?_)
          focus rfl
          go_simp
          go_wp2_with (go_at_call 15; refine (HST.out _ ((Chg.refl _ w7).drew)).mono ?_; rintro e w8 ⟨rfl, hc8⟩; have HC8 : Hid (Chg [] w7 w8) := Lib.hid (((Chg.refl _ w7).drew).trans hc8); clear hc8)
          refine hK.out _ _ ?_ (fun hHeld2 => ?_)
          focus exact Lib.hid ⟨(HB7.out.keep HC8.out (by simp)).cell rfl, (HB7.out.keep HC8.out (by simp)).cell rfl⟩
          clear hK K hHeld2 hHeld
          try simp only [Act.put, List.setIfInBounds_toArray, List.set_cons_zero, List.set_cons_succ]
          repeat (first
            | (refine planWp_read (v := ?_) rfl rfl ?_ ?_ ?_; rotate_left; (focus rfl); (focus (intro u hSw; (try dsimp only at hSw); obtain ⟨h1, h2⟩ := hSw.out; go_simp; (try with_reducible rfl))); (try simp only [Act.put, List.setIfInBounds_toArray, List.set_cons_zero, List.set_cons_succ])))
          refine planWp_do rfl rfl ?_ (fun K hK => ?_)
          focus rfl
          go_simp
          go_wp2_with (go_at_call 14; refine (HCL.out _ HC8.out).mono ?_; rintro e w9 ⟨v9, rfl, ho9, hs9⟩; obtain ⟨oa9, oc9, rfl⟩ := own_open ho9; have HO9 := Lib.hid ho9; have HS9 := Lib.hid ((HS7.out.fresh HC8.out).trans hs9); have HB9 : Hid (Blk w9 w6.heap.size _ _) := Lib.hid ((HB7.out.keep HC8.out (by simp)).keep hs9.chg (fun hm => absurd (HS6.out.at_.lt _ hm) (Nat.lt_irrefl _))); have HO8 := Lib.hid (own_keep (own_keep HO7.out HC8.out (by simp)) hs9.chg (fun y hy hm => (HS7.out.fresh HC8.out).at_.ne_ev (own_keep HO7.out HC8.out (by simp)) y hy hm)); clear ho9 hs9)
          refine hK.out _ _ ?_ (fun hHeld2 => ?_)
          focus exact Lib.hid ⟨HB9.out.cell rfl, HB9.out.cell rfl⟩
          clear hK K hHeld2
          try simp only [Act.put, List.setIfInBounds_toArray, List.set_cons_zero, List.set_cons_succ]
          refine planWp_do rfl rfl ?_ (fun K hK => ?_)
          focus rfl
          refine wp_append_any (o := ⟨some 94, _, _, _, _, _⟩) _ (.tmp 80) (.tmp 93) 36 rfl wg.heap.size 41 i0 (.agg #[.int .i64 0, .int .i64 0, .int .i64 0, .int .i64 0, .int .i64 0]) 5 40 Tryd.underlying36 hi0 hz0 hz1 hz2 rfl (by decide) (.slice oa4 (out.length + ev3.length) oc4) (out.length + ev3.length) (out.flatMap Ev.cells ++ ev3.flatMap Ev.cells) rfl HO8.out (.slice oa9 ev5.length oc9) ev5.length (ev5.flatMap Ev.cells) rfl (Reads.of_own HO9.out (by decide)) (evs_one ev5) (by have h1 := HOM.out.2; have h2 := HNB.out; have h3 := HE5.out; unfold maxLen; omega) (by have h1 := HOM.out.2; have h2 := HNB.out; have h3 := HE5.out; omega) (by have h1 := HS9.out.chg.size; omega) ?_
          intro v10 w10 hown10 hgrow10
          obtain ⟨oa10, oc10, rfl⟩ := own_open hown10
          have hout : ∀ y, (Value.slice oa4 (out.length + ev3.length) oc4).ownBlock = some y → wg.heap.size ≤ y ∧ y ∉ q3.all kb := fun y hy => ⟨(World.ownsRow.lt HO8.out y hy).1, HS9.out.at_.ne_ev HO8.out y hy⟩
          have HKB := Lib.hid ((Chg.refl (Value.slice oa4 (out.length + ev3.length) oc4).ownBlock.toList w9).grown hgrow10 (fun k hk => .inl (Option.mem_toList.2 hk)))
          have HS10 := Lib.hid (HS9.out.scratch HKB.out (fun y hy => hout y (Option.mem_toList.1 hy)))
          have HO10 := Lib.hid (OwnE.more2 hown10)
          have HB10 := Lib.hid (HB9.out.keep HKB.out (fun hm => own_type HO8.out HB9.out (by decide) _ (Option.mem_toList.1 hm) rfl))
          refine hK.out _ _ ?_ (fun hHeld2 => ?_)
          focus exact Lib.hid ⟨HB10.out.cell rfl, HB10.out.cell rfl⟩
          clear hK K hHeld2 hown10 hgrow10 hout
          try simp only [Act.put, List.setIfInBounds_toArray, List.set_cons_zero, List.set_cons_succ]
          repeat (first
            | (refine planWp_read (v := ?_) rfl rfl ?_ ?_ ?_; rotate_left; (focus rfl); (focus (intro u hSw; go_simp; (try with_reducible rfl))); (try simp only [Act.put, List.setIfInBounds_toArray, List.set_cons_zero, List.set_cons_succ])))
          refine planWp_nil ?_
          have h63 : ¬ (t : Int) + 1 > 9223372036854775807 := by have := HR.out.2.2.2.2.2.2.1; have := HTL.out; omega
          go_wp2
          go_roundw
          case rel =>
            refine ⟨t + 1, k5, q3, out ++ ev3 ++ ev5, oa10, oc10, by simp [Nat.add_assoc], by simp, Lib.hid ⟨HTL.out, by rw [runP_succ, HT.out.2, HTM.out, List.append_assoc]⟩, Lib.hid (by rw [HN.out]; exact HS10.out), Lib.hid HO10.out⟩
          case measure =>
            have := HTL.out
            simp [intOf]
            omega
        · have HTE : Hid (t = ticks) := Lib.hid (by have := HT.out.1; omega)
          have m4 : ¬ (t : Int) < (ticks : Int) := by omega
          clear htl
          go_wp2
          refine bodyPost_ret (results_tmp2 rfl _ _ _) rfl ?_
          refine ⟨_, rfl, ?_, (HK1.out.2.2.trans HC.out).into HS.out.chg (fun y hy => .inr (HQ.out y hy).1)⟩
          rw [← HTE.out, HT.out.2]
          exact own_mono HO.out (Nat.le_trans HWG.out.1 HWG.out.2)
end Go.Proofs.YtfkokbeloenfdaaDoor.krn
