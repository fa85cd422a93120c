import Derived.Test.YtphfnjcboellhaaGreatDoorWvFin
import Derived.WalkMore
namespace Go.Proofs.YtphfnjcboellhaaGreatDoor.wv
open Go Go.RowKit kit obj mem core
set_option maxRecDepth 20000
set_option maxHeartbeats 2000000 in
theorem Equal_any (u v : Value) (xs ys : List Int) (w : World) (hu : ReadsW w u xs) (hv : ReadsW w v ys) (hx : xs.length <= 1000000) (hy : ys.length <= 1000000) :
 Calls Tryz.prog 41 #[u, v] w fun e w' => e = .returned (.bool (wordsB xs ys)) /\ Quiet w w' := by
 obtain ⟨ua, uc, rfl, _⟩ := reads_slice hu.1
 obtain ⟨va, vc, rfl, _⟩ := reads_slice hv.1
 obtain ⟨b1, o1, ix1, cx1, _⟩ := reads_index (P := Tryz.prog) Tryz.underlying23 sz32 hu.1
 obtain ⟨b2, o2, ix2, cx2, _⟩ := reads_index (P := Tryz.prog) Tryz.underlying23 sz32 hv.1
 have hx1 : (xs.length : Int) <= 1000000 := by omega
 have hy1 : (ys.length : Int) <= 1000000 := by omega
 have CX1 := hid cx1
 have CX2 := hid cx2
 have IX1 := hid ix1
 have IX2 := hid ix2
 clear hx hy cx1 cx2 ix1 ix2 hu hv
 by_cases hl : xs.length = ys.length
 case neg =>
  have hf : wordsB xs ys = false := by simp only [wordsB, decide_eq_false_iff_not]; rintro rfl; exact hl rfl
  rw [hf]
  have hl2 : (xs.length : Int) ≠ (ys.length : Int) := by omega
  clear hf
  go_enter Tryz.func41, Tryz.ntmps41
  go_wp2
  go_ret
  exact ⟨rfl, ⟨0, rfl⟩⟩
 case pos =>
  have HL := hid hl
  go_enter Tryz.func41, Tryz.ntmps41
  rw [<- hl]
  clear hl
  go_wp2
  go_loopw [5, 13] (fun _ i wr => ∃ k m : Nat, k <= xs.length /\ i = .int .i64 k /\ Hid (xs.take k = ys.take k) /\ wr = w.drewN m) (fun _ i _ => xs.length - (intOf i).toNat)
  case atStart => exact ⟨0, 0, Nat.zero_le _, rfl, hid (by simp), rfl⟩
  case round =>
   obtain ⟨k, m, hk, rfl, HT, rfl⟩ := hrel
   by_cases hlt : k < xs.length
   · have hlt2 : k < ys.length := by have := HL.out; omega
     have i1 := IX1.out k hlt
     have i2 := IX2.out k hlt2
     rw [<- HL.out] at i2
     obtain ⟨p, hp⟩ : ∃ p, xs[k]? = some p := ⟨_, List.getElem?_eq_getElem hlt⟩
     obtain ⟨q, hq⟩ : ∃ q, ys[k]? = some q := ⟨_, List.getElem?_eq_getElem hlt2⟩
     have e1 : (w.drewN m).cell? ⟨b1, o1 + k * 1, none⟩ = some (.int .u32 p) := CX1.out (k * 1) _ (by simp [hp])
     have e2 : (w.drewN m).cell? ⟨b2, o2 + k * 1, none⟩ = some (.int .u32 q) := CX2.out (k * 1) _ (by simp [hq])
     have e1' : (w.drewN m).drew.cell? ⟨b1, o1 + k * 1, none⟩ = some (.int .u32 p) := e1
     have e2' : (w.drewN m).drew.cell? ⟨b2, o2 + k * 1, none⟩ = some (.int .u32 q) := e2
     have HS1 := hid (show xs.take (k + 1) = xs.take k ++ [p] by rw [List.take_add_one, hp]; rfl)
     have HS2 := hid (show ys.take (k + 1) = ys.take k ++ [q] by rw [List.take_add_one, hq]; rfl)
     have HXK := hid hp
     have HYK := hid hq
     clear hp hq hlt2
     have d1 : ∀ W, Hid (W = (w.drewN m).drew) -> W.cell? ⟨b1, o1 + k, none⟩ = some (.int .u32 p) := fun W h => by rw [h.out]; rw [Nat.mul_one] at e1; exact e1
     have d2 : ∀ W, Hid (W = (w.drewN m).drew) -> W.cell? ⟨b2, o2 + k, none⟩ = some (.int .u32 q) := fun W h => by rw [h.out]; rw [Nat.mul_one] at e2; exact e2
     have D1 := hid d1
     have D2 := hid d2
     clear e1 e2 e1' e2' d1 d2
     go_wp2_with fail
     refine wp_region_tail 8 (by kernel_rfl) (by kernel_rfl) ?_
     intro W hW
     have f1 := D1.out W hW
     have f2 := D2.out W hW
     simp only [List.take_succ_cons, List.take_zero, List.drop_succ_cons, List.drop_zero]
     repeat still_step
     refine wpStill_nil ?_
     by_cases hpq : p = q
     · subst hpq
       go_wp2
       go_roundw
       case rel => exact ⟨k + 1, m + 1, by omega, by go_num, hid (by rw [HS1.out, HS2.out, HT.out]), hW.out⟩
       case measure => simp [intOf]; omega
     · go_wp2
       go_ret
       refine ⟨?_, ⟨m + 1, hW.out⟩⟩
       have : wordsB xs ys = false := by
        simp only [wordsB, decide_eq_false_iff_not]
        rintro rfl
        have := HXK.out.symm.trans HYK.out
        simp at this
        exact hpq this
       rw [this]; rfl
   · go_wp2
     go_ret
     obtain rfl : k = xs.length := by omega
     refine ⟨?_, ⟨m, rfl⟩⟩
     have : wordsB xs ys = true := by
      simp only [wordsB, decide_eq_true_eq]
      have := HT.out
      rw [List.take_of_length_le (Nat.le_refl _), HL.out, List.take_of_length_le (Nat.le_refl _)] at this
      exact this
     rw [this]; rfl
set_option maxHeartbeats 1000000 in
theorem Same_any (u v : Value) (xs ys : List Int) (w : World) (hu : ReadsW w u xs) (hv : ReadsW w v ys) (hx : xs.length <= 1000000) (hy : ys.length <= 1000000) :
 Calls Tryz.prog 25 #[u, v] w fun e w' => e = .returned (.bool (wordsB xs ys)) /\ Quiet w w' := by
 have HE := hid (Equal_any u v xs ys w hu hv hx hy)
 obtain ⟨ua, uc, rfl, _⟩ := reads_slice hu.1
 obtain ⟨va, vc, rfl, _⟩ := reads_slice hv.1
 clear hu hv hx hy
 go_enter Tryz.func25, Tryz.ntmps25
 go_wp2_with (go_at_call 41; refine HE.out.mono ?_; rintro e w1 ⟨rfl, hq⟩; have HQ := hid hq; clear hq)
 go_ret
 exact ⟨rfl, HQ.out⟩
set_option maxHeartbeats 1000000 in
theorem find1_any (u v : Value) (xs ys : List Int) (b : Nat) (w : World) (hu : ReadsW w u xs) (hv : ReadsW w v ys) (hx : xs.length <= 1000000) (hy : ys.length <= 1000000) (hb : w.cell? ⟨b, 0, none⟩ = some v) :
 Calls Tryz.prog 24 #[u, .pointer (some ⟨b, 0, none⟩)] w fun e w' => e = .returned (.bool (wordsB xs ys)) /\ Quiet w w' := by
 have HE := hid (Same_any u v xs ys w hu hv hx hy)
 obtain ⟨ua, uc, rfl, _⟩ := reads_slice hu.1
 obtain ⟨va, vc, rfl, _⟩ := reads_slice hv.1
 clear hu hv hx hy
 go_enter Tryz.func24, Tryz.ntmps24
 go_wp2_with (go_at_call 25; refine HE.out.mono ?_; rintro e w1 ⟨rfl, hq⟩; have HQ := hid hq; clear hq)
 go_ret
 exact ⟨rfl, HQ.out⟩
theorem quiet_chg {w w' : World} (h : Quiet w w') : Chg [] w w' := by
 obtain ⟨n, rfl⟩ := h
 exact (Chg.refl [] w).drewN n
structure RecsR (W : World) (v : Value) (rs : List (List Int)) (vs : List Value) : Prop where
 row : Reads W 1 v rs.length vs
 len : vs.length = rs.length
 each : ∀ (i : Nat) r u, rs[i]? = some r -> vs[i]? = some u -> ReadsW W u r
 short : ∀ r ∈ rs, r.length <= 1000
theorem RecsR.chg {W V : World} {v : Value} {rs : List (List Int)} {vs : List Value} (h : RecsR W v rs vs) (k : Chg [] W V) : RecsR V v rs vs := ⟨h.row.fresh k, h.len, fun i r u h1 h2 => (h.each i r u h1 h2).chg k, h.short⟩
theorem szWords : (Tryz.prog.info? 23).map (·.size) = some 1 := by kernel_rfl
set_option maxHeartbeats 2000000 in
theorem IndexRec_any (v : Value) (rs : List (List Int)) (vs : List Value) (q : Value) (r : List Int) (b : Nat) (W : World) (h : RecsR W v rs vs) (hl : rs.length <= 1000) (hq : ReadsW W q r) (hr : r.length <= 1000) (hb : W.cell? ⟨b, 0, none⟩ = some q) (hin : r ∈ rs) :
 Calls Tryz.prog 23 #[v, .func (.func 24) #[] #[.pointer (some ⟨b, 0, none⟩)]] W fun e W' => (∃ k : Nat, e = .returned (.int .i64 (k : Int)) /\ rs[k]? = some r) /\ Chg [] W W' := by
 obtain ⟨bb, off, hix, hcell, hown⟩ := reads_index (P := Tryz.prog) Tryz.underlying40 szWords h.row
 obtain ⟨va, vc, rfl, _⟩ := reads_slice h.row
 have HX := hid hix
 have HC := hid hcell
 have HR := hid (⟨h, hq, hr, hb, hin⟩ : _ /\ _ /\ _ /\ _ /\ _)
 have HL := hid hl
 clear hix hcell hown h hl hq hr hb hin
 go_enter Tryz.func23, Tryz.ntmps23
 go_wp2_with fail
 go_loopw [5, 8] (fun _ i wr => ∃ j : Nat, j <= rs.length /\ i = .int .i64 j /\ Hid (∀ i, i < j -> rs[i]? ≠ some r) /\ Hid (Chg [] W wr)) (fun _ i _ => rs.length - (intOf i).toNat)
 case atStart => exact ⟨0, Nat.zero_le _, rfl, hid (fun i hi => by omega), hid (Chg.refl _ _)⟩
 case round =>
  obtain ⟨j, hj, rfl, HN, HJ⟩ := hrel
  by_cases hlt : j < rs.length
  · have HLT := hid hlt
    have g1 := HX.out j hlt
    obtain ⟨x, hxk⟩ : ∃ x, rs[j]? = some x := ⟨_, List.getElem?_eq_getElem hlt⟩
    obtain ⟨u, huk⟩ : ∃ u, vs[j]? = some u := ⟨_, List.getElem?_eq_getElem (by rw [HR.out.1.len]; exact hlt)⟩
    have q0 := HJ.out.keep (HC.out (j * 1) _ (by rw [Nat.mul_one]; exact huk)) (by simp)
    simp only [Nat.mul_one] at q0 g1
    have hxr := HR.out.1.each j x u hxk huk
    have hxs := HR.out.1.short x (List.mem_of_getElem? hxk)
    have HXK := hid hxk
    have hj1000 : (j : Int) < 1000 := by have := HL.out; omega
    have k8 : IntKind.i64.wrap ((j : Int) + 1) = (j : Int) + 1 := by rw [IntKind.wrap_i64]; omega
    have HF := hid (find1_any u q x r b wr (hxr.chg HJ.out) (HR.out.2.1.chg HJ.out) (by omega) (by have := HR.out.2.2.1; omega) (HJ.out.keep HR.out.2.2.2.1 (by simp)))
    obtain ⟨ua, uc, rfl, _⟩ := reads_slice hxr.1
    by_cases heq : x = r
    · have hwb : wordsB x r = true := decide_eq_true heq
      rw [hwb] at HF
      have HEQ := hid heq
      clear hwb heq hxk huk hxr hxs hj hlt
      go_wp2_with (go_at_call 24; refine HF.out.mono ?_; rintro e w1 ⟨rfl, hc⟩; have HC1 := hid (HJ.out.trans (quiet_chg hc)); clear hc)
      go_ret
      exact ⟨⟨j, rfl, by rw [HXK.out, HEQ.out]⟩, HC1.out⟩
    · have hwb : wordsB x r = false := decide_eq_false heq
      rw [hwb] at HF
      have HEQ := hid heq
      clear hwb heq hxk huk hxr hxs hj hlt
      go_wp2_with (go_at_call 24; refine HF.out.mono ?_; rintro e w1 ⟨rfl, hc⟩; have HC1 := hid (HJ.out.trans (quiet_chg hc)); clear hc)
      have hltj := HLT.out
      go_roundw
      case rel =>
       refine ⟨j + 1, by omega, by go_num, hid (fun i hi e => ?_), HC1⟩
       by_cases he : i = j
       · subst he
         rw [HXK.out] at e
         injection e with e
         exact HEQ.out e
       · exact HN.out i (by omega) e
      case measure => simp [intOf]; omega
  · obtain rfl : rs.length = j := by omega
    exfalso
    obtain ⟨i, hi, e⟩ := List.getElem_of_mem HR.out.2.2.2.2
    exact HN.out i hi (List.getElem?_eq_some_iff.2 ⟨hi, e⟩)
set_option maxHeartbeats 1000000 in
theorem Find_any (v : Value) (rs : List (List Int)) (vs : List Value) (q : Value) (r : List Int) (W : World) (h : RecsR W v rs vs) (hl : rs.length <= 1000) (hq : ReadsW W q r) (hr : r.length <= 1000) (hin : r ∈ rs) :
 Calls Tryz.prog 12 #[v, q] W fun e W' => (∃ k : Nat, e = .returned (.tuple #[.int .i64 (k : Int), .bool true]) /\ rs[k]? = some r) /\ Chg [] W W' := by
 have hmf : ∀ (fn : Fn) (first cap : Array Value) (w : World), (Instr.makeFunc fn first cap).run Tryz.prog w = .ok (.func fn first cap) w := fun _ _ _ _ => rfl
 have HC : Hid (Chg [] W (W.alloc (.cells #[q] 23))) := hid ((Chg.refl _ _).alloc _)
 have HI := hid (IndexRec_any v rs vs q r W.heap.size (W.alloc (.cells #[q] 23)) (h.chg HC.out) hl (hq.chg HC.out) hr ((Blk.new W _ _).cell rfl) hin)
 obtain ⟨va, vc, rfl, _⟩ := reads_slice h.row
 obtain ⟨qa, qc, rfl, _⟩ := reads_slice hq.1
 clear h hl hq hr hin
 go_enter Tryz.func12, Tryz.ntmps12
 go_wp2_with (go_at_call 23; refine HI.out.mono ?_; rintro e w1 ⟨⟨k, rfl, hk⟩, hc⟩; have HK := hid hk; have HC1 := hid (HC.out.trans hc); have hm : (if (k : Int) < 0 then (0 : Int) else (k : Int)) = k := if_neg (by omega); have hge : ((0 : Int) <= (k : Int)) := Int.natCast_nonneg k; clear hk hc)
 refine bodyPost_ret (results_tmp2 rfl _ _ _) rfl ?_
 exact ⟨⟨k, rfl, HK.out⟩, HC1.out⟩
set_option maxHeartbeats 1000000 in
theorem Mixed_no (v : Value) (rs : List (List Int)) (vs : List Value) (q : Value) (r : List Int) (W : World) (h : RecsR W v rs vs) (hl : rs.length <= 1000) (hq : ReadsW W q r) (hr : r.length <= 1000) (hin : r ∈ rs) :
 Calls Tryz.prog 14 #[v, q] W fun e W' => e = .returned (.bool false) /\ Chg [] W W' := by
 have HI := hid (Find_any v rs vs q r W h hl hq hr hin)
 obtain ⟨va, vc, rfl, _⟩ := reads_slice h.row
 obtain ⟨qa, qc, rfl, _⟩ := reads_slice hq.1
 clear h hl hq hr hin
 go_enter Tryz.func14, Tryz.ntmps14
 go_wp2_with fail
 go_step3
 go_wp2_with (go_at_call 12; refine HI.out.mono ?_; rintro e w1 ⟨⟨k, rfl, hk⟩, hc⟩; have HC1 := hid hc; clear hk hc)
 simp only [Exit.noGoto]
 go_ret
 exact ⟨rfl, HC1.out⟩
end Go.Proofs.YtphfnjcboellhaaGreatDoor.wv
