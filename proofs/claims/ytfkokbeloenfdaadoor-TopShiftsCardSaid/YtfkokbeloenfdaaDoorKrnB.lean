/- The kernel: agenda.up, down. -/
import Derived.Test.YtfkokbeloenfdaaDoorKrnA
import Derived.RegionTactic
import Derived.BigRegion
namespace Go.Proofs.YtfkokbeloenfdaaDoor.krn
open Go Go.RowKit Go.Proofs.YtfkokbeloenfdaaDoor.kit
set_option linter.unusedVariables false
set_option linter.unusedSimpArgs false
set_option maxRecDepth 20000
abbrev agB (w : World) (db : Nat) (room : Int) (v : Value) : Prop := Blk w db #[.int .i64 room, v] 92
theorem w64 (p : Nat) (h : p ≤ 1000000) : wrap64 (p : Int) = (p : Int) := by
  unfold wrap64; omega
set_option maxHeartbeats 4000000 in
theorem up_any (B db g c : Nat) (room : Int) (ds : List Du) (i0 : Nat) (W : World) (hb : agB W db room (.slice (some ⟨g, 0, none⟩) ds.length c)) (ho : OwnD W B (.slice (some ⟨g, 0, none⟩) ds.length c) ds) (hi : i0 < ds.length) (hdb : db ≠ g) (hl : ds.length ≤ 4096) :
    Calls Tryd.prog 38 #[.pointer (some ⟨db, 0, none⟩), .int .i64 (i0 : Int)] W fun e W' => (∃ v, e = .returned v) ∧ OwnD W' B (.slice (some ⟨g, 0, none⟩) ds.length c) (upM ds i0) ∧ Chg [g] W W' := by
  have HB := Lib.hid hb
  have HDB := Lib.hid hdb
  have HO := Lib.hid ho
  have HI := Lib.hid hi
  have HL := Lib.hid hl
  have HIX := Lib.hid (fun j (hj : j < ds.length) => index_at (t := 23) Tryd.underlying23 szDue g ds.length c j hj)
  clear hb hdb ho hi hl
  go_enter Tryd.func38, Tryd.ntmps38
  go_wp2
  go_loopw [1] (fun i wr => ∃ (j : Nat) (l : List Du), i = .int .i64 j ∧ Hid (j < ds.length ∧ l.length = ds.length ∧ upM ds i0 = upM l j) ∧ Hid (OwnD wr B (.slice (some ⟨g, 0, none⟩) l.length c) l) ∧ Hid (Chg [g] W wr)) (fun i _ => (intOf i).toNat)
  case atStart => exact ⟨i0, ds, rfl, Lib.hid ⟨HI.out, rfl, rfl⟩, HO, Lib.hid (Chg.refl _ _)⟩
  case round =>
    obtain ⟨j, l, rfl, HJ, HR, HC⟩ := hrel
    have HBW : Hid (agB wr db room (.slice (some ⟨g, 0, none⟩) ds.length c)) := Lib.hid (HB.out.keep HC.out (by have := HDB.out; simp; omega))
    by_cases h0 : 0 < j
    · have m1 : (0 : Int) < (j : Int) := by omega
      obtain ⟨p, hp⟩ : ∃ p, (j - 1) / 2 = p := ⟨_, rfl⟩
      have kq : IntKind.i64.wrap ((j : Int) - 1) = (j : Int) - 1 := by rw [IntKind.wrap_i64]; have := HJ.out.1; have := HL.out; omega
      have kp : IntKind.i64.wrap (((j : Int) - 1) / 2) = (p : Int) := by rw [IntKind.wrap_i64]; have := HJ.out.1; have := HL.out; omega
      have kt : ((j : Int) - 1).tdiv 2 = (p : Int) := by rw [Int.tdiv_eq_ediv_of_nonneg (by omega)]; omega
      have kw := w64 p (by have := HJ.out.1; have := HL.out; omega)
      have HP : Hid (p < j ∧ p < ds.length ∧ j < l.length ∧ p < l.length) := Lib.hid (by have := HJ.out; omega)
      have HUP : Hid (upM l j = if aheadB (l.getD j d0) (l.getD p d0) = true then upM (swapL l j p) p else l) := Lib.hid (by rw [upM, dif_pos h0, hp])
      have xj := HIX.out j HJ.out.1
      have xp := HIX.out p HP.out.2.1
      obtain ⟨⟨aj, tj⟩, hdj⟩ : ∃ d, l.getD j d0 = d := ⟨_, rfl⟩
      obtain ⟨⟨ap, tp⟩, hdp⟩ : ∃ d, l.getD p d0 = d := ⟨_, rfl⟩
      have hcj := HR.out.at j HP.out.2.2.1
      have hcp := HR.out.at p HP.out.2.2.2
      rw [hdj] at hcj
      rw [hdp] at hcp
      have HAH := Lib.hid (fun w => ahead_any ⟨aj, tj⟩ ⟨ap, tp⟩ w)
      have HSW : Hid (swapL l j p = (l.set j ⟨ap, tp⟩).set p ⟨aj, tj⟩) := Lib.hid (by unfold swapL; rw [hdj, hdp])
      rw [hdj, hdp] at HUP
      have FA : Hid (∀ V, Chg [] wr V → V.cell? ⟨db, 1, none⟩ = some (.slice (some ⟨g, 0, none⟩) ds.length c) ∧ (V.cell? ⟨g, j * 2, none⟩ = some (.int .i64 aj) ∧ V.cell? ⟨g, j * 2 + 1, none⟩ = some (.int .i64 tj)) ∧ V.cell? ⟨g, p * 2, none⟩ = some (.int .i64 ap) ∧ V.cell? ⟨g, p * 2 + 1, none⟩ = some (.int .i64 tp)) :=
        Lib.hid (fun V h => ⟨(HBW.out.keep h (by simp)).cell rfl, ⟨h.keep hcj.1.1 (by simp), h.keep hcj.1.2 (by simp)⟩, h.keep hcp.1.1 (by simp), h.keep hcp.1.2 (by simp)⟩)
      clear hp hcj hcp hdj hdp h0
      go_upto_region 2 with fail
      have hHeld : (fun V : World => Hid (Chg [] wr V)) (World.drew wr) := Lib.hid (Chg.refl _ _).drew
      refine wp_region_plan (fun V : World => Hid (Chg [] wr V)) [(0, true, some 10), (1, true, some 11), (2, true, some 12), (3, true, some 13), (4, true, some 14), (5, true, some 15), (6, true, some 16), (7, true, some 17), (8, true, some 18), (9, true, some 19), (10, true, some 20), (11, true, some 21), (12, true, some 22), (13, true, some 23), (14, false, some 24), (15, true, some 25)] (by kernel_rfl) (by kernel_rfl) (by kernel_rfl) (by kernel_rfl) (fun d c a v w h => by cases d <;> exact h) hHeld ?_
      repeat (first
        | (refine planWp_read (v := ?_) rfl rfl ?_ ?_ ?_; rotate_left; (focus rfl); (focus (intro u hSw; (try dsimp only at hSw); obtain ⟨h0, ⟨h1, h2⟩, h3, h4⟩ := FA.out u hSw.out; go_simp; (try with_reducible rfl))); (try simp only [Act.put, List.setIfInBounds_toArray, List.set_cons_zero, List.set_cons_succ]))
        | (refine planWp_do rfl rfl ?_ (fun K hK => ?_); (focus rfl); go_simp; (try go_wp2_with (go_at_call 48; refine (HAH.out _).mono ?_; rintro e w' ⟨rfl, hcg⟩)); refine hK.out _ _ ?_ (fun hHeld2 => ?_); (focus exact Lib.hid (hHeld.out.trans hcg)); clear hK K hHeld hcg; have hHeld := hHeld2; clear hHeld2; (try simp only [Act.put, List.setIfInBounds_toArray, List.set_cons_zero, List.set_cons_succ])))
      refine planWp_nil ?_
      cases hah : aheadB ⟨aj, tj⟩ ⟨ap, tp⟩
      · rw [hah] at HUP
        go_wp2
        go_end0
        refine ⟨⟨_, rfl⟩, ?_, HC.out.fresh hHeld.out⟩
        have h9 : OwnD w' B (.slice (some ⟨g, 0, none⟩) l.length c) l := own_keep HR.out hHeld.out (by simp)
        rw [HJ.out.2.1] at h9
        rw [HJ.out.2.2, HUP.out, if_neg (by decide)]
        exact h9
      · rw [hah] at HUP
        have hq := hHeld.out
        obtain ⟨e0, ⟨e1, e2⟩, e3, e4⟩ := FA.out w' hq
        have HRW : Hid (OwnD w' B (.slice (some ⟨g, 0, none⟩) l.length c) l) := Lib.hid (own_keep HR.out hq (by simp))
        have f1 := (HRW.out.at j HP.out.2.2.1).2.1
        have f2 := (HRW.out.at j HP.out.2.2.1).2.2
        have f3 := (HRW.out.at p HP.out.2.2.2).2.1
        have f4 := (HRW.out.at p HP.out.2.2.2).2.2
        have n1 : ¬ (j * 2 = p * 2) := by have := HP.out; omega
        have n2 : ¬ (j * 2 + 1 = p * 2) := by have := HP.out; omega
        have n3 : ¬ (j * 2 = p * 2 + 1) := by have := HP.out; omega
        have n4 : ¬ (j * 2 + 1 = p * 2 + 1) := by have := HP.out; omega
        have n5 : ¬ (p * 2 = j * 2) := by have := HP.out; omega
        have n6 : ¬ (p * 2 + 1 = j * 2) := by have := HP.out; omega
        have n7 : ¬ (p * 2 = j * 2 + 1) := by have := HP.out; omega
        have n8 : ¬ (p * 2 + 1 = j * 2 + 1) := by have := HP.out; omega
        clear hq FA HAH
        go_upto_region 3 with fail
        go_region
        obtain ⟨V, hV⟩ : ∃ V, ((((w'.setCell ⟨g, j * 2, none⟩ (.int .i64 ap)).setCell ⟨g, j * 2 + 1, none⟩ (.int .i64 tp)).setCell ⟨g, p * 2, none⟩ (.int .i64 aj)).setCell ⟨g, p * 2 + 1, none⟩ (.int .i64 tj)).drew = V := ⟨_, rfl⟩
        rw [hV]
        have HV : Hid (OwnD V B (.slice (some ⟨g, 0, none⟩) (swapL l j p).length c) (swapL l j p)) := Lib.hid (by
          have h1 := (HRW.out.put j ⟨ap, tp⟩)
          have h2 := h1.put p ⟨aj, tj⟩
          rw [HSW.out, ← hV]
          exact h2)
        have HCV : Hid (Chg [g] W V) := Lib.hid (by
          rw [← hV]
          exact ((((HC.out.fresh hHeld.out).setCell (.inl (by simp)) _).setCell (.inl (by simp)) _).setCell (.inl (by simp)) _ |>.setCell (.inl (by simp)) _).drew)
        clear hV e0 e1 e2 e3 e4 f1 f2 f3 f4 n1 n2 n3 n4 n5 n6 n7 n8
        go_wp2
        go_roundw
        case rel => exact ⟨p, swapL l j p, rfl, Lib.hid ⟨HP.out.2.1, by rw [swapL_len]; exact HJ.out.2.1, by rw [HJ.out.2.2, HUP.out, if_pos rfl]⟩, HV, HCV⟩
        case measure => have := HP.out.1; simp [intOf]; omega
    · obtain rfl : j = 0 := by omega
      have HUP : Hid (upM l 0 = l) := Lib.hid (by rw [upM, dif_neg (by omega)])
      go_wp2
      go_end0
      refine ⟨⟨_, rfl⟩, ?_, HC.out⟩
      have h9 := HR.out
      rw [HJ.out.2.1] at h9
      rw [HJ.out.2.2, HUP.out]
      exact h9
end Go.Proofs.YtfkokbeloenfdaaDoor.krn
