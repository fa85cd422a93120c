/- TopShifts: the walk of a case that is asked for. -/
import Derived.Test.YtfkokbeloenfdaaDoorKrnTop
import Derived.Test.YtfkokbeloenfdaaDoorKrnPm
namespace Go.Proofs.YtfkokbeloenfdaaDoor.krn
open Go Go.RowKit Go.Proofs.YtfkokbeloenfdaaDoor.kit Go.Shelf
set_option linter.unusedVariables false
set_option linter.unusedSimpArgs false
set_option maxRecDepth 20000
theorem tkv_one {l : List Tk} (h : ∀ t ∈ l, CodeSl t) : ∀ u ∈ TkV l, u.oneCell' = true := by
  intro u hu
  unfold TkV at hu
  obtain ⟨t, ht, hu⟩ := List.mem_flatMap.1 hu
  have hc := (h t ht).one
  simp only [Tk.cells, List.mem_cons, List.not_mem_nil, or_false] at hu
  rcases hu with rfl | rfl | rfl | rfl | rfl | rfl | rfl <;> first | rfl | exact hc
/-- tasks of which the first j are later -/
def shL (n : Int) (l : List Tk) (j : Nat) : List Tk := (l.take j).map (shT n) ++ l.drop j
theorem shL_len (n : Int) (l : List Tk) (j : Nat) : (shL n l j).length = l.length := by
  unfold shL
  rw [List.length_append, List.length_map, List.length_take, List.length_drop]; omega
theorem shL_get (n : Int) {l : List Tk} {j : Nat} {t : Tk} (h : l[j]? = some t) : (shL n l j)[j]? = some t := by
  have hj := (List.getElem?_eq_some_iff.1 h).1
  unfold shL
  rw [List.getElem?_append_right (by simp; omega)]
  simp [Nat.min_eq_left (Nat.le_of_lt hj), h]
theorem shL_succ (n : Int) {l : List Tk} {j : Nat} {t : Tk} (h : l[j]? = some t) : shL n l (j + 1) = (shL n l j).set j (shT n t) := by
  have hj := (List.getElem?_eq_some_iff.1 h).1
  unfold shL
  rw [List.set_append_right _ _ (by simp; omega), List.length_map, List.length_take, Nat.min_eq_left (Nat.le_of_lt hj), Nat.sub_self, List.take_add_one, h, List.map_append, List.append_assoc, List.drop_eq_getElem_cons hj, (List.getElem?_eq_some_iff.1 h).2]
  rfl
theorem shT_plain {n : Int} {t : Tk} (hn : 0 ≤ n) (h : PlainT t) (ho : (shT n t).offset ≤ 1048576) : PlainT (shT n t) := by
  obtain ⟨h1, h2, h3, h4, h5, h6⟩ := h
  have hk := shT_kind n t
  refine ⟨?_, by rw [hk.2.1]; exact h2, by rw [hk.2.2.1]; exact h3, ⟨?_, ho⟩, by rw [hk.2.2.1, hk.2.2.2.1]; exact h5, by rw [hk.2.2.2.2.1]; exact h6⟩
  · rw [hk.1]
    rcases h1 with h1 | ⟨h1, h0⟩
    · exact .inl h1
    · refine .inr ⟨h1, ?_⟩
      unfold shT
      rw [if_neg (by omega)]
      exact h0
  · unfold shT
    split
    · show 0 ≤ t.offset + n
      omega
    · exact h4.1
theorem set_same {α : Type} {l : List α} {j : Nat} {t : α} (h : l[j]? = some t) : l.set j t = l := by
  refine List.ext_getElem? (fun k => ?_)
  rw [List.getElem?_set]
  by_cases hk : j = k
  · subst hk
    rw [if_pos rfl, if_pos (List.getElem?_eq_some_iff.1 h).1, h]
  · rw [if_neg hk]
theorem shA_snoc (n ticks : Int) {l : List Du} {j : Nat} {d : Du} (h : l[j]? = some d) : shA n ticks (l.take (j + 1)) = if 0 ≤ d.at_ ∧ d.at_ < ticks then shA n ticks (l.take j) ++ [⟨d.at_ + n, d.task⟩] else shA n ticks (l.take j) := by
  unfold shA
  rw [List.take_add_one, h, List.filter_append, List.map_append]
  by_cases hc : 0 ≤ d.at_ ∧ d.at_ < ticks
  · rw [if_pos hc]
    simp [hc, sh]
  · rw [if_neg hc]
    simp only [Option.toList_some, List.filter_cons, decide_eq_false hc, List.filter_nil, List.map_nil, List.append_nil, Bool.false_eq_true, if_false]
theorem du_cells (w : World) (e : Du) : ∀ (j : Nat) u, e.cells[j]? = some u → (w.alloc (.cells #[.int .i64 e.at_, .int .i64 e.task] 35)).cell? ((⟨w.heap.size, 0, none⟩ : Addr).add j) = some u := fun j u hj => by
  rw [Go.Proofs.YtfkokbeloenfdaaDoor.kit.add_plain, Nat.zero_add]
  exact (Blk.new w _ _).cell (by rw [← Array.getElem?_toList]; exact hj)
theorem OwnDV.snoc {w : World} {B c : Nat} {a : Option Addr} {xs : List Du} {d : Du} (h : w.ownsRow B 35 2 (.slice a (xs.length + 1) c) (xs.length + 1) (DuV xs ++ d.cells)) : w.ownsRow B 35 2 (.slice a (xs ++ [d]).length c) (xs ++ [d]).length (DuV (xs ++ [d])) := by
  have e : DuV (xs ++ [d]) = DuV xs ++ d.cells := by unfold DuV; simp
  rw [e, show (xs ++ [d]).length = xs.length + 1 by simp]
  exact h
set_option maxHeartbeats 16000000 in
theorem asked (a0 : Option Addr) (c0 : Nat) (l : List Tk) (a1 : Option Addr) (c1 : Nat) (asks : List Du) (a2 : Option Addr) (c2 : Nat) (dem : List (List Int)) (ticks : Nat) (x : Int) (hx : 0 ≤ x ∧ x ≤ 255) (W : World) (hTb : bitm.Tab W)
    (hT : Reads W 7 (.slice a0 l.length c0) l.length (TkV l)) (hcd : ∀ t ∈ l, CodeSl t) (hA : Reads W 2 (.slice a1 asks.length c1) asks.length (DuV asks)) (ha64 : ∀ d ∈ asks, I64 d.at_ ∧ I64 d.task) (hD : DemAt W (.slice a2 dem.length c2) dem)
    (hlb : lightB l asks.length dem ticks = true) (hg : goodB l = true) (htk : ticks ≤ 500) :
    Calls Tryd.prog 3 #[.agg #[.slice a0 l.length c0, .slice a1 asks.length c1, .slice a2 dem.length c2, .int .i64 (ticks : Int)], .int .u8 x] W fun e W' => e = .returned (.bool true) ∧ Chg [] W W' := by
  have hgl : 1 ≤ l.length ∧ l.length ≤ 8 := by
    unfold goodB at hg
    exact of_decide_eq_true (Bool.and_eq_true _ _ ▸ hg).1
  have hpl : ∀ t ∈ l, PlainT t := fun t ht => by
    unfold goodB at hg
    exact plainB_iff (List.all_eq_true.1 (Bool.and_eq_true _ _ ▸ hg).2 t ht)
  have hna : asks.length ≤ 200 := by
    unfold lightB at hlb
    simp only [Bool.and_eq_true, decide_eq_true_eq] at hlb
    exact hlb.1.1.1.2
  obtain ⟨n, hnx⟩ : ∃ n : Nat, x % 50 = (n : Int) := ⟨(x % 50).toNat, by omega⟩
  have HNX : Hid (n < 50) := Lib.hid (by omega)
  obtain ⟨L, hL⟩ : ∃ z, l.length = z := ⟨_, rfl⟩
  obtain ⟨na, hna2⟩ : ∃ z, asks.length = z := ⟨_, rfl⟩
  obtain ⟨nd, hnd⟩ : ∃ z, dem.length = z := ⟨_, rfl⟩
  have HLN := Lib.hid (⟨hL, hna2, hnd⟩ : _ ∧ _ ∧ _)
  rw [hL, hna2, hnd]
  obtain ⟨W1, hW1⟩ : ∃ z, W.alloc (.cells #[.slice a0 L c0, .slice a1 na c1, .slice a2 nd c2, .int .i64 (ticks : Int)] 26) = z := ⟨_, rfl⟩
  have HCA : Hid (Chg [] W W1) := Lib.hid (by rw [← hW1]; exact (Chg.refl _ _).alloc _)
  have HBX : Hid (Blk W1 W.heap.size #[.slice a0 L c0, .slice a1 na c1, .slice a2 nd c2, .int .i64 (ticks : Int)] 26) := Lib.hid (by rw [← hW1]; exact Blk.new W _ _)
  have HLI := Lib.hid (light_any a0 c0 l a1 na c1 a2 c2 dem ticks W1 (hT.fresh HCA.out) hcd (hD.fresh HCA.out))
  rw [hna2] at hlb hna
  rw [hL, hnd, hlb] at HLI
  have HNW := Lib.hid (fun V (hV : Chg [] W V) => rNew_good a0 c0 l V (hT.fresh hV) hcd hg)
  rw [hL] at HNW
  have HSC := Lib.hid (fun V (hV : Chg [] W V) => schedules_any V (hTb.keep hV))
  have h0 := HBX.out.cell (o := 0) rfl
  have h1 := HBX.out.cell (o := 1) rfl
  have h2 := HBX.out.cell (o := 2) rfl
  have h3 := HBX.out.cell (o := 3) rfl
  have HT := Lib.hid (fun V (hV : Chg [] W V) => hT.fresh hV)
  rw [hL] at hT
  have HT2 := Lib.hid (fun V (hV : Chg [] W V) => hT.fresh hV)
  have HA := Lib.hid (⟨hA, ha64, hD⟩ : _ ∧ _ ∧ _)
  rw [hL] at hgl
  have HG := Lib.hid (⟨hgl, hpl, hcd, hna, htk, hTb⟩ : _ ∧ _ ∧ _ ∧ _ ∧ _ ∧ _)
  have HONE := Lib.hid (tkv_one hcd)
  have m1 : ¬ (ticks : Int) < 0 := by omega
  have m2 : ¬ (500 : Int) < (ticks : Int) := by omega
  obtain ⟨i0, hi0, hz0, hz1, hz2⟩ := info_parts infoTask
  have hb1 : 0 + L ≤ maxLen := by unfold maxLen; omega
  have hb2 : (0 + L) * 72 ≤ 140737488355328 := by omega
  clear hT hcd hTb hA ha64 hD hlb hg hgl hpl hna hL hna2 hnd htk
  go_enter Tryd.func3, Tryd.ntmps3
  go_upto_block 6 with (first
    | (go_at_call 4; (try rw [hW1]); refine HLI.out.mono ?_; rintro e w2 ⟨rfl, hc2⟩; have HC2 := Lib.hid (HCA.out.trans hc2); have k0 := (HBX.out.keep hc2 (by simp)).cell (o := 0) rfl; have HB2 := Lib.hid (HBX.out.keep hc2 (by simp)); clear hc2)
    | (go_at_call 5; refine (HNW.out _ HC2.out).mono ?_; rintro e w3 ⟨pa, rfl, hc3⟩; have HC3 := Lib.hid (HC2.out.trans hc3); have HB3 := Lib.hid (HB2.out.keep hc3 (by simp)); have k3 := HB3.out.cell (o := 3) rfl; have k4 := (HB3.out.keep ((Chg.refl [] w3).alloc (.cells #[] 33)) (by simp)).cell (o := 0) rfl; clear hc3; have hown0 : (w3.alloc (.cells #[] 33)).ownsRow W.heap.size 33 7 (.slice (some ⟨w3.heap.size, 0, none⟩) 0 0) 0 [] := (⟨rfl, .inr ⟨_, 0, #[], rfl, HC3.out.size, Blk.new w3 _ _, Nat.le_refl _, by decide, rfl, rfl⟩⟩); have hrd0 := HT2.out _ (HC3.out.alloc (.cells #[] 33)); have hb3 : W.heap.size ≤ (w3.alloc (.cells #[] 33)).heap.size := (by rw [World.size_alloc]; have h1 := HC3.out.size; omega))
    | (at_builtin; refine wpList_append_any _ rfl (.tmp 42) (.tmp 44) 22 rfl W.heap.size 33 i0 _ 7 72 Tryd.underlying22 hi0 hz0 hz1 hz2 rfl (by decide) (.slice (some ⟨w3.heap.size, 0, none⟩) 0 0) 0 [] rfl hown0 (.slice a0 L c0) L (TkV l) rfl hrd0 HONE.out hb1 hb2 hb3 ?_; intro v' w4 hown' hgrow; rw [Nat.zero_add, List.nil_append] at hown'; obtain ⟨g, lc, rfl, hgB, hgL⟩ := own_addr hown' (by have := HG.out.1.1; omega); have HOL := Lib.hid hown'; have HC4 := Lib.hid ((HC3.out.alloc (.cells #[] 33)).grown hgrow (fun k hk => .inr (by cases hk; exact HC3.out.size))); have HB4 := Lib.hid ((HB3.out.keep ((Chg.refl [] w3).alloc (.cells #[] 33)) (by simp)).keep ((Chg.refl [w3.heap.size] _).grown hgrow (fun k hk => .inl (by cases hk; simp))) (fun hm => by have h1 := HB3.out.lt; rw [List.mem_singleton.1 hm] at h1; omega)); clear hown' hgrow))
  have HGB : Hid (W.heap.size < g) := Lib.hid (by
    rcases Nat.lt_or_ge W.heap.size g with h | h
    · exact h
    · exact absurd (Nat.le_antisymm h hgB) (fun he => own_type HOL.out HB4.out (by decide) g (by simp [Value.ownBlock]) he))
  clear hW1 h0 h1 h2 h3 k0 k3 k4 hown0 hrd0 hb3 hgB hgL hb1 hb2 hx
  go_loopw [48] (fun p wr => ∃ j : Nat, Hid (j ≤ L) ∧ p = .int .i64 (j : Int) ∧ Hid (wr.ownsRow W.heap.size 33 7 (.slice (some ⟨g, 0, none⟩) (shL n l j).length lc) (shL n l j).length ((shL n l j).flatMap Tk.cells)) ∧ Hid (∀ t ∈ (l.take j).map (shT n), t.offset ≤ 1048576) ∧ Hid (Chg [] W wr) ∧ Hid (Blk wr W.heap.size #[.slice a0 L c0, .slice a1 na c1, .slice a2 nd c2, .int .i64 (ticks : Int)] 26)) (fun p _ => L - (intOf p).toNat)
  case atStart => exact ⟨0, Lib.hid (Nat.zero_le _), rfl, Lib.hid (by rw [shL_len, HLN.out.1, show shL n l 0 = l from rfl]; exact HOL.out), Lib.hid (by simp), HC4, HB4⟩
  case round =>
    obtain ⟨j, HJ, rfl, HO, HOF, HC, HB⟩ := hrel
    by_cases hjl : j < L
    · have HJL := Lib.hid hjl
      obtain ⟨t, ht⟩ : ∃ t, l[j]? = some t := ⟨_, List.getElem?_eq_getElem (by rw [HLN.out.1]; exact hjl)⟩
      have HPT := Lib.hid (HG.out.2.1 t (List.mem_of_getElem? ht))
      obtain ⟨ca, cl, cc, hce⟩ := HG.out.2.2.1 t (List.mem_of_getElem? ht)
      have HTJ := Lib.hid ht
      have ixb := index_at (size := 7) Tryd.underlying22 szTask g L lc j hjl
      obtain ⟨kind, prio, period, offset, deadline, own, code⟩ := t
      simp only at hce
      subst hce
      have hgt := shL_get (n : Int) ht
      have hO1 := HO.out
      have q0 := (row_cell (enc := Tk.cells) (sz := 7) (fun _ => rfl) hO1 j 0 (by decide) _ hgt _ rfl).1
      have q1 := (row_cell (enc := Tk.cells) (sz := 7) (fun _ => rfl) hO1 j 1 (by decide) _ hgt _ rfl).1
      have q2 := (row_cell (enc := Tk.cells) (sz := 7) (fun _ => rfl) hO1 j 2 (by decide) _ hgt _ rfl).1
      have q3 := (row_cell (enc := Tk.cells) (sz := 7) (fun _ => rfl) hO1 j 3 (by decide) _ hgt _ rfl).1
      have q4 := (row_cell (enc := Tk.cells) (sz := 7) (fun _ => rfl) hO1 j 4 (by decide) _ hgt _ rfl).1
      have q5 := (row_cell (enc := Tk.cells) (sz := 7) (fun _ => rfl) hO1 j 5 (by decide) _ hgt _ rfl).1
      have q6 := (row_cell (enc := Tk.cells) (sz := 7) (fun _ => rfl) hO1 j 6 (by decide) _ hgt _ rfl).1
      rw [Nat.add_zero] at q0
      obtain ⟨wa, hwa⟩ : ∃ z, wr.alloc (.cells #[.int .i64 kind, .int .i64 prio, .int .i64 period, .int .i64 offset, .int .i64 deadline, .int .i64 own, .slice ca cl cc] 33) = z := ⟨_, rfl⟩
      have hca : Chg [] wr wa := by rw [← hwa]; exact (Chg.refl _ wr).alloc _
      have hba : Blk wa wr.heap.size #[.int .i64 kind, .int .i64 prio, .int .i64 period, .int .i64 offset, .int .i64 deadline, .int .i64 own, .slice ca cl cc] 33 := by rw [← hwa]; exact Blk.new wr _ _
      have hO2 := own_keep hO1 hca (by simp)
      have HO2 := Lib.hid hO2
      have HCW : Hid (Chg [] W wa) := Lib.hid (HC.out.trans hca)
      have HBW : Hid (Blk wa W.heap.size #[.slice a0 L c0, .slice a1 na c1, .slice a2 nd c2, .int .i64 (ticks : Int)] 26) := Lib.hid (HB.out.keep hca (by simp))
      have p3 := row_cell (enc := Tk.cells) (sz := 7) (fun _ => rfl) hO2 j 3 (by decide) _ hgt _ rfl
      have z0 := hba.cell (o := 0) rfl
      have z0' := hca.size
      obtain ⟨p3, f3⟩ := p3
      have m3 : (j : Int) < (L : Int) := by omega
      have h63 : ¬ (j : Int) + 1 > 9223372036854775807 := by have := HG.out.1; omega
      have kw : IntKind.i64.wrap (offset + (n : Int)) = offset + (n : Int) := by have h1 := HPT.out.offset; have h2 := HNX.out; simp only at h1; rw [IntKind.wrap_i64]; omega
      clear hjl ht hgt hO1 hO2 hca hba z0'
      by_cases hk : kind = 1
      · subst hk
        have HST : Hid (shT (n : Int) ⟨1, prio, period, offset, deadline, own, .slice ca cl cc⟩ = ⟨1, prio, period, offset + n, deadline, own, .slice ca cl cc⟩) := Lib.hid rfl
        by_cases hov : (1048576 : Int) < offset + n
        · have HCS : Hid (Chg [] W (wa.setCell ⟨g, j * 7 + 3, none⟩ (.int .i64 (offset + n)))) := Lib.hid (HCW.out.setCell (.inr (Nat.le_of_lt HGB.out)) _)
          go_wp2_with (go_at_call 6; refine (HSC.out _ HCS.out).mono ?_; rintro e w9 ⟨rfl, hc9⟩; have HC9 := Lib.hid (HCS.out.trans hc9); clear hc9)
          go_ret
          exact ⟨rfl, HC9.out⟩
        · have HOV := Lib.hid (Int.not_lt.1 hov)
          go_wp2_with fail
          go_roundw
          case rel =>
            refine ⟨j + 1, Lib.hid HJL.out, by go_num, Lib.hid ?_, Lib.hid ?_, Lib.hid (HCW.out.setCell (.inr (Nat.le_of_lt HGB.out)) _), Lib.hid (HBW.out.keep ((Chg.refl [g] wa).setCell (.inl (by simp)) _) (fun hm => by have := HGB.out; have := List.mem_singleton.1 hm; omega))⟩
            · rw [shL_succ (n : Int) HTJ.out, HST.out]
              exact row_put (enc := Tk.cells) (sz := 7) (fun _ => rfl) HO2.out j 3 (by decide) _ _ (shL_get (n : Int) HTJ.out) _ rfl
            · intro t ht
              rw [List.take_add_one, HTJ.out, List.map_append] at ht
              rcases List.mem_append.1 ht with h | h
              · exact HOF.out t h
              · simp only [Option.toList_some, List.map_cons, List.map_nil, List.mem_singleton] at h
                rw [h, HST.out]
                exact HOV.out
          case measure =>
            have := HJL.out
            simp [intOf]
            omega
      · have HST : Hid (shT (n : Int) ⟨kind, prio, period, offset, deadline, own, .slice ca cl cc⟩ = ⟨kind, prio, period, offset, deadline, own, .slice ca cl cc⟩) := Lib.hid (if_neg hk)
        have hov : ¬ (1048576 : Int) < offset := by have := HPT.out.offset.2; simp only at this; omega
        have HOV := Lib.hid (Int.not_lt.1 hov)
        go_wp2_with fail
        go_roundw
        case rel =>
          refine ⟨j + 1, Lib.hid HJL.out, by go_num, Lib.hid ?_, Lib.hid ?_, HCW, HBW⟩
          · rw [shL_succ (n : Int) HTJ.out, HST.out, set_same (shL_get (n : Int) HTJ.out)]
            exact HO2.out
          · intro t ht
            rw [List.take_add_one, HTJ.out, List.map_append] at ht
            rcases List.mem_append.1 ht with h | h
            · exact HOF.out t h
            · simp only [Option.toList_some, List.map_cons, List.map_nil, List.mem_singleton] at h
              rw [h, HST.out]
              exact HOV.out
        case measure =>
          have := HJL.out
          simp [intOf]
          omega
    · obtain rfl : j = L := by have := HJ.out; omega
      have m3 : ¬ (j : Int) < (j : Int) := by omega
      clear hjl
      have HSL : Hid (shL n l j = l.map (shT n)) := Lib.hid (by unfold shL; rw [← HLN.out.1, List.take_length, List.drop_length, List.append_nil])
      have HOF2 : Hid (∀ t ∈ l.map (shT n), t.offset ≤ 1048576) := Lib.hid (by have h1 := HOF.out; rwa [← HLN.out.1, List.take_length] at h1)
      have HO3 : Hid (wr.ownsRow W.heap.size 33 7 (.slice (some ⟨g, 0, none⟩) j lc) j (TkV (l.map (shT n)))) := Lib.hid (by have h1 := HO.out; rwa [shL_len, HLN.out.1, HSL.out] at h1)
      have c1 := HB.out.cell (o := 1) rfl
      go_upto_block 15 with fail
      clear m3 c1 HO HOF HJ HSL
      obtain ⟨i1, hi1, hy0, hy1, hy2⟩ := info_parts infoDue
      have HN0 : Hid (wr.ownsRow W.heap.size 35 2 (.slice none 0 0) 0 []) := Lib.hid ⟨rfl, .inl ⟨rfl, rfl⟩⟩
      go_loopw [9, 76] (fun ov p wr => ∃ (j2 : Nat) (out : List Du) (oa : Option Addr) (oc : Nat), Hid (j2 ≤ na ∧ out = shA n ticks (asks.take j2) ∧ out.length ≤ j2) ∧ ov = .slice oa out.length oc ∧ p = .int .i64 (j2 : Int) ∧ Hid (wr.ownsRow W.heap.size 35 2 (.slice oa out.length oc) out.length (DuV out)) ∧ Hid (wr.ownsRow W.heap.size 33 7 (.slice (some ⟨g, 0, none⟩) j lc) j (TkV (l.map (shT n)))) ∧ Hid (Chg [] W wr) ∧ Hid (Blk wr W.heap.size #[.slice a0 j c0, .slice a1 na c1, .slice a2 nd c2, .int .i64 (ticks : Int)] 26)) (fun _ p _ => na - (intOf p).toNat)
      case atStart => exact ⟨0, [], none, 0, Lib.hid ⟨Nat.zero_le _, rfl, Nat.le_refl _⟩, rfl, rfl, HN0, HO3, HC, HB⟩
      case round =>
        clear HO3 HC HB HN0
        obtain ⟨j2, out, oa, oc, HJ, rfl, rfl, HO, HOT, HC, HB⟩ := hrel
        by_cases hjl : j2 < na
        · have HJL := Lib.hid hjl
          obtain ⟨d, hd⟩ : ∃ d, asks[j2]? = some d := ⟨_, List.getElem?_eq_getElem (by rw [HLN.out.2.1]; exact hjl)⟩
          have HTA := Lib.hid (shA_snoc (n : Int) (ticks : Int) hd)
          have h64 := HA.out.2.1 d (List.mem_of_getElem? hd)
          have hra := HA.out.1.fresh HC.out
          rw [HLN.out.2.1] at hra
          obtain ⟨rb, ro, rx, rc, -⟩ := reads_index (P := Tryd.prog) Tryd.underlying23 szDue hra
          have ix := rx j2 hjl
          have y0 := rc (j2 * 2 + 0) (.int .i64 d.at_) (by unfold DuV; rw [flatMap_get Du.cells 2 (fun _ => rfl) asks j2 0 (by decide) _ hd]; rfl)
          have y1 := rc (j2 * 2 + 1) (.int .i64 d.task) (by unfold DuV; rw [flatMap_get Du.cells 2 (fun _ => rfl) asks j2 1 (by decide) _ hd]; rfl)
          simp only [Nat.add_zero, ← Nat.add_assoc] at y0 y1
          obtain ⟨at_, tk⟩ := d
          simp only at h64 y0 y1 HTA
          have m3 : (j2 : Int) < (na : Int) := by omega
          have h63 : ¬ (j2 : Int) + 1 > 9223372036854775807 := by have := HG.out.2.2.2.1; omega
          obtain ⟨wa, hwa⟩ : ∃ z, wr.alloc (.cells #[.int .i64 at_, .int .i64 tk] 35) = z := ⟨_, rfl⟩
          have hca : Chg [] wr wa := by rw [← hwa]; exact (Chg.refl _ wr).alloc _
          have hba : Blk wa wr.heap.size #[.int .i64 at_, .int .i64 tk] 35 := by rw [← hwa]; exact Blk.new wr _ _
          have HCW : Hid (Chg [] W wa) := Lib.hid (HC.out.trans hca)
          have HBW : Hid (Blk wa W.heap.size #[.slice a0 j c0, .slice a1 na c1, .slice a2 nd c2, .int .i64 (ticks : Int)] 26) := Lib.hid (HB.out.keep hca (by simp))
          have HOW := Lib.hid (own_keep HO.out hca (by simp))
          have HOTW := Lib.hid (own_keep HOT.out hca (by simp))
          have z0 := hba.cell (o := 0) rfl
          have z1 := hba.cell (o := 1) rfl
          have z3 := HBW.out.cell (o := 3) rfl
          clear hjl hd hra rx rc hca hba
          by_cases hin : 0 ≤ at_ ∧ at_ < (ticks : Int)
          · obtain ⟨g0, g1⟩ := hin
            have HIN := Lib.hid (⟨g0, g1⟩ : 0 ≤ at_ ∧ at_ < (ticks : Int))
            have kw : IntKind.i64.wrap (at_ + (n : Int)) = at_ + (n : Int) := by have h1 := HG.out.2.2.2.2.1; have h2 := HNX.out; rw [IntKind.wrap_i64]; omega
            have hb1 : out.length + 1 ≤ maxLen := by have h1 := HJ.out; have h2 := HG.out.2.2.2.1; unfold maxLen; omega
            have hb2 : (out.length + 1) * 16 ≤ 140737488355328 := by have h1 := HJ.out; have h2 := HG.out.2.2.2.1; omega
            have hb3 : W.heap.size ≤ (wa.alloc (.cells #[.int .i64 (at_ + (n : Int)), .int .i64 tk] 35)).heap.size := by rw [World.size_alloc]; have h1 := HCW.out.size; omega
            have hOA : (wa.alloc (.cells #[.int .i64 (at_ + (n : Int)), .int .i64 tk] 35)).ownsRow W.heap.size 35 2 (.slice oa out.length oc) out.length (DuV out) := own_keep HOW.out ((Chg.refl [] wa).alloc _) (by simp)
            have hcc := du_cells wa ⟨at_ + (n : Int), tk⟩
            clear h64
            go_wp2_with (at_builtin; refine wpList_append_own_at _ rfl (.tmp 90) (.tmp 98) 23 rfl W.heap.size 35 i1 (.agg #[.int .i64 0, .int .i64 0]) 2 16 Tryd.underlying23 hi1 hy0 hy1 hy2 rfl (by decide) (.slice oa out.length oc) out.length (DuV out) rfl hOA ⟨wa.heap.size, 0, none⟩ 1 1 _ rfl rfl hcc (by simp [Value.oneCell', Du.cells]) hb1 hb2 hb3 ?_; intro v' w6 hown' hgrow hnil hblk; obtain ⟨oa2, oc2, rfl⟩ := own_open hown'; have HKA := Lib.hid (((Chg.refl (Value.slice oa out.length oc).ownBlock.toList wa).alloc (.cells #[.int .i64 (at_ + (n : Int)), .int .i64 tk] 35)).grown hgrow (fun k hk => .inl (Option.mem_toList.2 hk))); have HON := Lib.hid (OwnDV.snoc (d := ⟨at_ + n, tk⟩) hown'); clear hown' hgrow hnil hblk)
            have hob : ∀ y ∈ (Value.slice oa out.length oc).ownBlock.toList, W.heap.size ≤ y := fun y hy => (World.ownsRow.lt HOW.out y (Option.mem_toList.1 hy)).1
            go_roundw
            case rel =>
              refine ⟨j2 + 1, out ++ [⟨at_ + n, tk⟩], oa2, oc2, Lib.hid ⟨HJL.out, by rw [HTA.out, if_pos HIN.out, HJ.out.2.1], by have := HJ.out.2.2; simp; omega⟩, by simp, by go_num, HON, Lib.hid (own_keep HOTW.out HKA.out (fun y hy hm => own_type2 HOTW.out HOW.out (by decide) y hy (Option.mem_toList.1 hm))), Lib.hid (HCW.out.into HKA.out (fun y hy => .inr (hob y hy))), Lib.hid (HBW.out.keep HKA.out (fun hm => own_type HOW.out HBW.out (by decide) _ (Option.mem_toList.1 hm) rfl))⟩
            case measure =>
              have := HJL.out
              simp [intOf]
              omega
          · by_cases g0 : 0 ≤ at_
            · have g1 : ¬ at_ < (ticks : Int) := fun h => hin ⟨g0, h⟩
              go_wp2_with fail
              go_roundw
              case rel =>
                refine ⟨j2 + 1, out, oa, oc, Lib.hid ⟨HJL.out, by rw [HTA.out, if_neg (by omega)]; exact HJ.out.2.1, by have := HJ.out.2.2; omega⟩, rfl, by go_num, HOW, HOTW, HCW, HBW⟩
              case measure =>
                have := HJL.out
                simp [intOf]
                omega
            · clear hin
              go_wp2_with fail
              go_roundw
              case rel =>
                refine ⟨j2 + 1, out, oa, oc, Lib.hid ⟨HJL.out, by rw [HTA.out, if_neg (by omega)]; exact HJ.out.2.1, by have := HJ.out.2.2; omega⟩, rfl, by go_num, HOW, HOTW, HCW, HBW⟩
              case measure =>
                have := HJL.out
                simp [intOf]
                omega

        · obtain rfl : j2 = na := by have := HJ.out.1; omega
          have m3 : ¬ (j2 : Int) < (j2 : Int) := by omega
          have HOE : Hid (out = shA n ticks asks) := Lib.hid (by have h1 := HJ.out.2.1; rwa [← HLN.out.2.1, List.take_length] at h1)
          clear hjl
          have HPL := Lib.hid (fun t ht => (⟨HG.out.2.1 t ht, (HG.out.2.2.1 t ht).one⟩ : PlainT t ∧ t.code.oneCell' = true))
          have HPS : Hid (∀ t ∈ l.map (shT n), PlainT t ∧ t.code.oneCell' = true) := Lib.hid (fun t ht => by
            obtain ⟨u, hu, rfl⟩ := List.mem_map.1 ht
            refine ⟨shT_plain (Int.natCast_nonneg n) (HG.out.2.1 u hu) (HOF2.out _ ht), ?_⟩
            rw [(shT_kind n u).2.2.2.2.2]
            exact (HG.out.2.2.1 u hu).one)
          have HRUN1 := Lib.hid (fun V (hV : Chg [] W V) => Run_any (.slice a0 l.length c0) (.slice a1 asks.length c1) (.slice a2 dem.length c2) l asks dem ticks V (HT.out V hV) (by rw [HLN.out.1]; exact HG.out.1) HPL.out (HA.out.1.fresh hV) (by have := HG.out.2.2.2.1; have := HLN.out.2.1; omega) HA.out.2.1 (HA.out.2.2.fresh hV) (by have := HG.out.2.2.2.2.1; omega) (HG.out.2.2.2.2.2.keep hV))
          have HRUN2 := Lib.hid (fun V (hV : Chg [] wr V) => Run_any (.slice (some ⟨g, 0, none⟩) (l.map (shT n)).length lc) (.slice oa out.length oc) (.slice a2 dem.length c2) (l.map (shT n)) out dem (n + ticks) V (by rw [List.length_map, HLN.out.1]; exact Reads.of_own (own_keep HOT.out hV (by simp)) (by decide)) (by rw [List.length_map, HLN.out.1]; exact HG.out.1) HPS.out (Reads.of_own (own_keep HO.out hV (by simp)) (by decide)) (by have h1 := HG.out.2.2.2.1; have h2 := HJ.out.2.2; omega) (fun d hd => by
            rw [HOE.out] at hd
            obtain ⟨y, hy, rfl⟩ := List.mem_map.1 hd
            have h1 := List.mem_filter.1 hy
            have h2 := of_decide_eq_true h1.2
            have h3 := HG.out.2.2.2.2.1
            have h4 := HNX.out
            exact ⟨i64_of (by show -9223372036854775808 ≤ y.at_ + n; omega) (by show y.at_ + n ≤ 9223372036854775807; omega), (HA.out.2.1 y h1.1).2⟩) (HA.out.2.2.fresh (HC.out.trans hV)) (by have h3 := HG.out.2.2.2.2.1; have h4 := HNX.out; omega) (HG.out.2.2.2.2.2.keep (HC.out.trans hV)))
          have hsim := (run_sim n l (by rw [HLN.out.1]; exact HG.out.1) HG.out.2.1 dem (askAt asks) (askAt out) (fun t ht => by rw [HOE.out]; exact askAt_low n ticks asks t ht) ticks (by have := HG.out.2.2.2.2.1; omega) (fun t ht => by rw [HOE.out]; exact askAt_sh n ticks asks t ht)).2
          have hrt := run_t l (by rw [HLN.out.1]; exact HG.out.1) HG.out.2.1 (askAt asks) dem ticks (by have := HG.out.2.2.2.2.1; omega)
          have hrl := (run_ok l (by rw [HLN.out.1]; exact HG.out.1) HG.out.2.1 (askAt asks) dem ticks (by have := HG.out.2.2.2.2.1; omega)).2.2.2
          obtain ⟨E1, hE1⟩ : ∃ z, (runP l (askAt asks) dem ticks).2 = z := ⟨_, rfl⟩
          obtain ⟨E2, hE2⟩ : ∃ z, (runP (l.map (shT n)) (askAt out) dem (n + ticks)).2 = z := ⟨_, rfl⟩
          rw [hE1] at hsim hrt HRUN1 hrl
          rw [hE2] at hsim HRUN2
          rw [show (((n + ticks : Nat)) : Int) = (ticks : Int) + (n : Int) by omega, List.length_map, HLN.out.1, HLN.out.2.2] at HRUN2
          rw [HLN.out.1, HLN.out.2.1, HLN.out.2.2] at HRUN1
          obtain ⟨N1, hN1⟩ : ∃ z, E1.length = z := ⟨_, rfl⟩
          have hN2 : E2.length = N1 + n := by rw [hsim, List.length_append, List.length_map, List.length_range, List.length_map, hN1]; omega
          have HE := Lib.hid (⟨hsim, hrt, hN1, hN2⟩ : _ ∧ _ ∧ _ ∧ _)
          have HN1 : Hid (N1 ≤ 200000) := Lib.hid (by
            have h1 := sumN_le asks ticks
            have h2 := HLN.out.2.1
            have h3 := HG.out.2.2.2.1
            have h4 := HG.out.2.2.2.2.1
            omega)
          have kw : IntKind.i64.wrap ((ticks : Int) + (n : Int)) = (ticks : Int) + (n : Int) := by have h3 := HG.out.2.2.2.2.1; have h4 := HNX.out; rw [IntKind.wrap_i64]; omega
          have kw2 : IntKind.i64.wrap ((N1 : Int) + (n : Int)) = (N1 : Int) + (n : Int) := by have h3 := HN1.out; have h4 := HNX.out; rw [IntKind.wrap_i64]; omega
          have y0 := HB.out.cell (o := 0) rfl
          have y1 := HB.out.cell (o := 1) rfl
          have y2 := HB.out.cell (o := 2) rfl
          have y3 := HB.out.cell (o := 3) rfl
          clear hsim hrt hrl hE1 hE2 hN1 hN2 m3
          go_upto_block 25 with (first
            | (go_at_call 7; (with_reducible refine (HRUN1.out _ HC.out).mono ?_); rintro e w7 ⟨v7, rfl, ho7, hc7⟩; obtain ⟨va7, vc7, rfl⟩ := own_open ho7; rw [HE.out.2.2.1] at ho7 ⊢; have HO7 := Lib.hid ho7; have HC7 := Lib.hid hc7; have x2 := (HB.out.keep hc7 (by simp)).cell (o := 2) rfl; have x3 := (HB.out.keep hc7 (by simp)).cell (o := 3) rfl; clear ho7 hc7)
            | (go_at_call 7; (with_reducible refine (HRUN2.out _ HC7.out).mono ?_); rintro e w8 ⟨v8, rfl, ho8, hc8⟩; obtain ⟨va8, vc8, rfl⟩ := own_open ho8; rw [HE.out.2.2.2] at ho8 ⊢; have HO8 := Lib.hid ho8; have HC8 := Lib.hid hc8; clear ho8 hc8))
          have hr8 := Reads.of_own HO8.out (by decide)
          have hr7 := Reads.of_own (own_keep HO7.out HC8.out (by simp)) (by decide)
          rw [HE.out.2.2.2] at hr8
          rw [HE.out.2.2.1] at hr7
          have HRB := Lib.hid (reads_index (P := Tryd.prog) Tryd.underlying36 szEv hr8)
          have HRA := Lib.hid (reads_index (P := Tryd.prog) Tryd.underlying36 szEv hr7)
          clear hr8 hr7
          have HCW : Hid (Chg [] W w8) := Lib.hid ((HC.out.trans HC7.out).trans HC8.out)
          clear x2 x3 y0 y1 y2 y3 kw kw2
          go_loopw [16] (fun p wr => ∃ k : Nat, Hid (k ≤ n) ∧ p = .int .i64 (k : Int) ∧ Hid (Chg [] w8 wr)) (fun p _ => n - (intOf p).toNat)
          case atStart => exact ⟨0, Lib.hid (Nat.zero_le _), rfl, Lib.hid (Chg.refl _ _)⟩
          case round =>
            rename_i ww _ _
            obtain ⟨k, HKN, rfl, HCk⟩ := hrel
            by_cases hkn : k < n
            · have HKL := Lib.hid hkn
              obtain ⟨b1, o1, hx1, hc1, -⟩ := HRB.out
              have ix := hx1 k (by omega)
              have hk2 : E2[k]? = some (idle k) := by
                rw [HE.out.1, List.getElem?_append_left (by simp; exact hkn), List.getElem?_map, List.getElem?_range hkn]; rfl
              have hcc := fun f v (hf : f < 5) (hv : (idle k).cells[f]? = some v) => HCk.out.keep (hc1 (k * 5 + f) v (by rw [flatMap_get Ev.cells 5 (fun _ => rfl) E2 k f hf _ hk2]; exact hv)) (by simp)
              have p0 := hcc 0 _ (by decide) rfl
              have p1 := hcc 1 _ (by decide) rfl
              have p2 := hcc 2 _ (by decide) rfl
              have p3 := hcc 3 _ (by decide) rfl
              have p4 := hcc 4 _ (by decide) rfl
              simp only [Nat.add_zero, ← Nat.add_assoc, idle] at p0 p1 p2 p3 p4
              have m3 : (k : Int) < (n : Int) := by omega
              have h63 : ¬ (k : Int) + 1 > 9223372036854775807 := by have := HNX.out; omega
              clear hkn hx1 hc1 hk2 hcc
              go_wp2_with fail
              go_roundw
              case rel => exact ⟨k + 1, Lib.hid HKL.out, by go_num, HCk⟩
              case measure =>
                have := HKL.out
                simp [intOf]
                omega
            · obtain rfl : k = n := by have := HKN.out; omega
              have m3 : ¬ (k : Int) < (k : Int) := by omega
              clear hkn
              go_upto_block 30 with fail
              clear m3
              go_loopw [154] (fun p wr => ∃ q : Nat, Hid (q ≤ N1) ∧ p = .int .i64 (q : Int) ∧ Hid (Chg [] w8 wr)) (fun p _ => N1 - (intOf p).toNat)
              case atStart => exact ⟨0, Lib.hid (Nat.zero_le _), rfl, HCk⟩
              case round =>
                obtain ⟨q, HQN, rfl, HCq⟩ := hrel
                by_cases hqn : q < N1
                · have HQL := Lib.hid hqn
                  obtain ⟨e, he⟩ : ∃ e, E1[q]? = some e := ⟨_, List.getElem?_eq_getElem (by rw [HE.out.2.2.1]; exact hqn)⟩
                  have hek : E2[k + q]? = some (evS k e) := by
                    rw [HE.out.1, List.getElem?_append_right (by simp), List.length_map, List.length_range, Nat.add_sub_cancel_left, List.getElem?_map, he]; rfl
                  have het := HE.out.2.1 e (List.mem_of_getElem? he)
                  obtain ⟨ba, oa2, hxa, hca, -⟩ := HRA.out
                  obtain ⟨bb, ob, hxb, hcb, -⟩ := HRB.out
                  have ixa := hxa q (by omega)
                  have ixb := hxb (k + q) (by omega)
                  rw [show (((k + q : Nat)) : Int) = (k : Int) + (q : Int) by omega] at ixb
                  have hcc := fun f v (hf : f < 5) (hv : e.cells[f]? = some v) => HCq.out.keep (hca (q * 5 + f) v (by rw [flatMap_get Ev.cells 5 (fun _ => rfl) E1 q f hf _ he]; exact hv)) (by simp)
                  have s0 := hcc 0 _ (by decide) rfl
                  have s1 := hcc 1 _ (by decide) rfl
                  have s2 := hcc 2 _ (by decide) rfl
                  have s3 := hcc 3 _ (by decide) rfl
                  have s4 := hcc 4 _ (by decide) rfl
                  obtain ⟨e0, e1, e2, e3, e4⟩ := e
                  obtain ⟨wa, hwa⟩ : ∃ z, wr.alloc (.cells #[.int .i64 e0, .int .i64 e1, .int .i64 e2, .int .i64 e3, .int .i64 e4] 41) = z := ⟨_, rfl⟩
                  have hba : Blk wa wr.heap.size #[.int .i64 e0, .int .i64 e1, .int .i64 e2, .int .i64 e3, .int .i64 e4] 41 := by rw [← hwa]; exact Blk.new wr _ _
                  have hcA : Chg [] wr wa := by rw [← hwa]; exact (Chg.refl _ wr).alloc _
                  obtain ⟨wb, hwb⟩ : ∃ z, wa.setCell ⟨wr.heap.size, 0, none⟩ (.int .i64 (e0 + (k : Int))) = z := ⟨_, rfl⟩
                  have hbb : Blk wb wr.heap.size #[.int .i64 (e0 + (k : Int)), .int .i64 e1, .int .i64 e2, .int .i64 e3, .int .i64 e4] 41 := by rw [← hwb]; exact hba.set 0 _
                  have hcB : Chg [] wr wb := by rw [← hwb]; exact hcA.setCell (.inr (Nat.le_refl _)) _
                  have HCB : Hid (Chg [] w8 wb) := Lib.hid (HCq.out.trans hcB)
                  have z0 := hba.cell (o := 0) rfl
                  have f0 := hba.free 0
                  have r0 := hbb.cell (o := 0) rfl
                  have r1 := hbb.cell (o := 1) rfl
                  have r2 := hbb.cell (o := 2) rfl
                  have r3 := hbb.cell (o := 3) rfl
                  have r4 := hbb.cell (o := 4) rfl
                  have hcd := fun f v (hf : f < 5) (hv : (evS k ⟨e0, e1, e2, e3, e4⟩).cells[f]? = some v) => HCB.out.keep (hcb ((k + q) * 5 + f) v (by rw [flatMap_get Ev.cells 5 (fun _ => rfl) E2 (k + q) f hf _ hek]; exact hv)) (by simp)
                  have d0 := hcd 0 _ (by decide) rfl
                  have d1 := hcd 1 _ (by decide) rfl
                  have d2 := hcd 2 _ (by decide) rfl
                  have d3 := hcd 3 _ (by decide) rfl
                  have d4 := hcd 4 _ (by decide) rfl
                  simp only [Nat.add_zero, ← Nat.add_assoc, evS] at d0 d1 d2 d3 d4 s0 s1 s2 s3 s4
                  simp only at het
                  have kw : IntKind.i64.wrap (e0 + (k : Int)) = e0 + (k : Int) := by have h1 := HNX.out; rw [IntKind.wrap_i64]; omega
                  have kw3 : IntKind.i64.wrap ((k : Int) + (q : Int)) = (k : Int) + (q : Int) := by have h1 := HNX.out; have h2 := HN1.out; rw [IntKind.wrap_i64]; omega
                  have m3 : (q : Int) < (N1 : Int) := by omega
                  have h63 : ¬ (q : Int) + 1 > 9223372036854775807 := by have := HN1.out; omega
                  clear hqn he hek het hxa hca hxb hcb hcc hcd hba hcA hbb hcB
                  go_upto_region 34 with fail
                  clear hwa hwb z0 f0 s0 s1 s2 s3 s4 ixa
                  go_quiet (fail)
                  go_wp2
                  go_roundw
                  case rel => exact ⟨q + 1, Lib.hid HQL.out, by go_num, Lib.hid (HCB.out.drewN _)⟩
                  case measure =>
                    have := HQL.out
                    simp [intOf]
                    omega
                · obtain rfl : q = N1 := by have := HQN.out; omega
                  have m3 : ¬ (q : Int) < (q : Int) := by omega
                  have HCZ : Hid (Chg [] W wr) := Lib.hid (HCW.out.trans HCq.out)
                  clear hqn
                  go_wp2_with (go_at_call 6; refine (HSC.out _ HCZ.out).mono ?_; rintro e w9 ⟨rfl, hc9⟩; have HC9 := Lib.hid (HCZ.out.trans hc9); clear hc9)
                  go_ret
                  exact ⟨rfl, HC9.out⟩
end Go.Proofs.YtfkokbeloenfdaaDoor.krn
