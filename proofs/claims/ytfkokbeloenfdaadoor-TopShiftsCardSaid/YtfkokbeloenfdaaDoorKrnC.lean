/- The kernel: agenda.down (printed by krn1.py). -/
import Derived.Test.YtfkokbeloenfdaaDoorKrnB
namespace Go.Proofs.YtfkokbeloenfdaaDoor.krn
open Go Go.RowKit Go.Proofs.YtfkokbeloenfdaaDoor.kit
set_option linter.unusedVariables false
set_option linter.unusedSimpArgs false
set_option maxRecDepth 20000
set_option maxHeartbeats 8000000 in
theorem down_any (B db g c : Nat) (room : Int) (ds : List Du) (i0 : Nat) (W : World) (hb : agB W db room (.slice (some ⟨g, 0, none⟩) ds.length c)) (ho : OwnD W B (.slice (some ⟨g, 0, none⟩) ds.length c) ds) (hi : i0 ≤ 4096) (hdb : db ≠ g) (hl : ds.length ≤ 4096) :
    Calls Tryd.prog 63 #[.pointer (some ⟨db, 0, none⟩), .int .i64 (i0 : Int)] W fun e W' => (∃ v, e = .returned v) ∧ OwnD W' B (.slice (some ⟨g, 0, none⟩) ds.length c) (downM ds i0) ∧ Chg [g] W W' := by
  have HB := Lib.hid hb
  have HDB := Lib.hid hdb
  have HO := Lib.hid ho
  have HI := Lib.hid hi
  have HL := Lib.hid hl
  have HIX := Lib.hid (fun j (hj : j < ds.length) => index_at (t := 23) Tryd.underlying23 szDue g ds.length c j hj)
  clear hb hdb ho hi hl
  go_enter Tryd.func63, Tryd.ntmps63
  go_wp2
  go_loopw [1] (fun i wr => ∃ (j : Nat) (l : List Du), i = .int .i64 j ∧ Hid (l.length = ds.length ∧ downM ds i0 = downM l j ∧ j ≤ 4096) ∧ Hid (OwnD wr B (.slice (some ⟨g, 0, none⟩) l.length c) l) ∧ Hid (Chg [g] W wr)) (fun i _ => 8200 - (intOf i).toNat)
  case atStart => exact ⟨i0, ds, rfl, Lib.hid ⟨rfl, rfl, HI.out⟩, HO, Lib.hid (Chg.refl _ _)⟩
  case round =>
    obtain ⟨j, l, rfl, HJ, HR, HC⟩ := hrel
    have HBW : Hid (agB wr db room (.slice (some ⟨g, 0, none⟩) ds.length c)) := Lib.hid (HB.out.keep HC.out (by have := HDB.out; simp; omega))
    have b1 : wr.cell? ⟨db, 1, none⟩ = some (.slice (some ⟨g, 0, none⟩) ds.length c) := HBW.out.cell rfl
    obtain ⟨k, hk⟩ : ∃ k, 2 * j + 1 = k := ⟨_, rfl⟩
    obtain ⟨k1, hk1⟩ : ∃ k1, k + 1 = k1 := ⟨_, rfl⟩
    obtain ⟨j2, hj2⟩ : ∃ j2, 2 * j = j2 := ⟨_, rfl⟩
    have w1 : IntKind.i64.wrap (2 * (j : Int)) = (j2 : Int) := by rw [IntKind.wrap_i64]; have := HJ.out; omega
    have w2 : IntKind.i64.wrap ((j2 : Int) + 1) = (k : Int) := by rw [IntKind.wrap_i64]; have := HJ.out; omega
    have w3 : IntKind.i64.wrap ((k : Int) + 1) = (k1 : Int) := by rw [IntKind.wrap_i64]; have := HJ.out; omega
    have HK : Hid (2 * j + 1 = k ∧ k + 1 = k1) := Lib.hid ⟨hk, hk1⟩
    by_cases hc1 : k < ds.length
    · have m1 : ¬ (ds.length : Int) ≤ (k : Int) := by omega
      have HC1 := Lib.hid hc1
      have HJL : Hid (2 * j + 1 < l.length) := Lib.hid (by have := HJ.out.1; omega)
      have xj := HIX.out j (by omega)
      have xk := HIX.out k hc1
      obtain ⟨⟨aj, tj⟩, hdj⟩ : ∃ d, l.getD j d0 = d := ⟨_, rfl⟩
      obtain ⟨⟨ak, tk⟩, hdk⟩ : ∃ d, l.getD k d0 = d := ⟨_, rfl⟩
      obtain ⟨⟨ak1, tk1⟩, hdk1⟩ : ∃ d, l.getD k1 d0 = d := ⟨_, rfl⟩
      have HGJ := Lib.hid hdj
      have HGk := Lib.hid hdk
      have HGk1 := Lib.hid hdk1
      have hcj := HR.out.at j (by have := HJ.out.1; omega)
      have hck := HR.out.at k (by have := HJ.out.1; omega)
      have hck1 := fun (h : k1 < l.length) => HR.out.at k1 h
      rw [hdj] at hcj
      rw [hdk] at hck
      rw [hdk1] at hck1
      have HAH := Lib.hid (fun w => ahead_any ⟨ak1, tk1⟩ ⟨ak, tk⟩ w)
      have FA : Hid (∀ V, Chg [] wr V → V.cell? ⟨db, 1, none⟩ = some (.slice (some ⟨g, 0, none⟩) ds.length c) ∧ (V.cell? ⟨g, j * 2, none⟩ = some (.int .i64 aj) ∧ V.cell? ⟨g, j * 2 + 1, none⟩ = some (.int .i64 tj)) ∧ (V.cell? ⟨g, k * 2, none⟩ = some (.int .i64 ak) ∧ V.cell? ⟨g, k * 2 + 1, none⟩ = some (.int .i64 tk)) ∧ (k1 < l.length → V.cell? ⟨g, k1 * 2, none⟩ = some (.int .i64 ak1) ∧ V.cell? ⟨g, k1 * 2 + 1, none⟩ = some (.int .i64 tk1))) :=
        Lib.hid (fun V h => ⟨(HBW.out.keep h (by simp)).cell rfl, ⟨h.keep hcj.1.1 (by simp), h.keep hcj.1.2 (by simp)⟩, ⟨h.keep hck.1.1 (by simp), h.keep hck.1.2 (by simp)⟩, fun hh => ⟨h.keep (hck1 hh).1.1 (by simp), h.keep (hck1 hh).1.2 (by simp)⟩⟩)
      by_cases hc2 : k1 < ds.length
      · have m2 : (k1 : Int) < (ds.length : Int) := by omega
        have xk1 := HIX.out k1 hc2
        have HK1 : Hid (k1 < l.length) := Lib.hid (by have := HJ.out.1; omega)
        have HKD : Hid (kidM l j = if aheadB ⟨ak1, tk1⟩ ⟨ak, tk⟩ = true then k1 else k) := Lib.hid (by
          unfold kidM
          rw [show 2 * j + 2 = k1 by omega, hk, hdk1, hdk]
          simp [HK1.out])
        clear hcj hck hck1 hdj hdk hdk1 hk hk1 hj2 hc1 hc2
        go_upto_region 2 with fail
        have hHeld : (fun V : World => Hid (Chg [] wr V)) (World.drew wr) := Lib.hid (Chg.refl _ _).drew
        refine wp_region_plan (fun V : World => Hid (Chg [] wr V)) [(0, true, some 15), (1, true, some 16), (2, true, some 17), (3, true, some 18), (4, true, some 19), (5, true, some 20), (6, true, some 21), (7, true, some 22), (8, true, some 23), (9, true, some 24), (10, true, some 25), (11, true, some 26), (12, true, some 27), (13, true, some 28), (14, true, some 29), (15, true, some 30), (16, true, some 31), (17, true, some 32), (18, true, some 33), (19, true, some 34), (20, true, some 35), (21, true, some 36), (22, true, some 37), (23, true, some 38), (24, false, some 39), (25, true, some 40)] (by kernel_rfl) (by kernel_rfl) (by kernel_rfl) (by kernel_rfl) (fun d c a v w h => by cases d <;> exact h) hHeld ?_
        repeat (first
          | (refine planWp_read (v := ?_) rfl rfl ?_ ?_ ?_; rotate_left; (focus rfl); (focus (intro u hSw; (try dsimp only at hSw); obtain ⟨h0, ⟨h1, h2⟩, ⟨h3, h4⟩, h5⟩ := FA.out u hSw.out; obtain ⟨h6, h7⟩ := h5 HK1.out; go_simp; (try with_reducible rfl))); (try simp only [Act.put, List.setIfInBounds_toArray, List.set_cons_zero, List.set_cons_succ]))
          | (refine planWp_skip rfl rfl ?_ ?_; (focus rfl); (try simp only [Act.put, List.setIfInBounds_toArray, List.set_cons_zero, List.set_cons_succ]))
          | (refine planWp_leave rfl rfl ?_ hHeld ?_; (focus rfl); (try simp only [Act.put, List.setIfInBounds_toArray, List.set_cons_zero, List.set_cons_succ]))
          | (refine planWp_do rfl rfl ?_ (fun K hK => ?_); (focus rfl); go_simp; (try go_wp2_with (go_at_call 48; refine (HAH.out _).mono ?_; rintro e wq ⟨rfl, hcg⟩)); refine hK.out _ _ ?_ (fun hHeld2 => ?_); (focus exact Lib.hid (hHeld.out.trans hcg)); clear hK K hHeld hcg; have hHeld := hHeld2; clear hHeld2; (try simp only [Act.put, List.setIfInBounds_toArray, List.set_cons_zero, List.set_cons_succ])))
        refine planWp_nil ?_
        have HQ := Lib.hid hHeld.out
        clear hHeld
        cases hat : aheadB ⟨ak1, tk1⟩ ⟨ak, tk⟩
        · rw [hat] at HKD
          have HKID : Hid (kidM l j = k) := Lib.hid (by rw [HKD.out, if_neg (by decide)])
          clear hat
          have HKL : Hid (kidM l j = k ∧ j < k ∧ k < l.length ∧ j < l.length) := Lib.hid ⟨HKID.out, by have := HK.out; omega, by have := HK.out; have := HJ.out; omega, by have := HK.out; have := HJ.out; omega⟩
          have HDN : Hid (downM l j = if aheadB ⟨ak, tk⟩ ⟨aj, tj⟩ = true then downM (swapL l j k) k else l) := Lib.hid (by rw [downM, dif_pos HJL.out, HKL.out.1, HGJ.out, HGk.out])
          have HSW : Hid (swapL l j k = (l.set j ⟨ak, tk⟩).set k ⟨aj, tj⟩) := Lib.hid (by unfold swapL; rw [HGJ.out, HGk.out])
          have HA2 := Lib.hid (fun w => ahead_any ⟨ak, tk⟩ ⟨aj, tj⟩ w)
          go_upto_region 4 with fail
          have hHeld : (fun V : World => Hid (Chg [] wq V)) (World.drew wq) := Lib.hid (Chg.refl _ _).drew
          refine wp_region_plan (fun V : World => Hid (Chg [] wq V)) [(0, true, some 43), (1, true, some 44), (2, true, some 45), (3, true, some 46), (4, true, some 47), (5, true, some 48), (6, true, some 49), (7, true, some 50), (8, true, some 51), (9, true, some 52), (10, true, some 53), (11, true, some 54), (12, true, some 55), (13, true, some 56), (14, false, some 57), (15, true, some 58)] (by kernel_rfl) (by kernel_rfl) (by kernel_rfl) (by kernel_rfl) (fun d c a v w h => by cases d <;> exact h) hHeld ?_
          repeat (first
            | (refine planWp_read (v := ?_) rfl rfl ?_ ?_ ?_; rotate_left; (focus rfl); (focus (intro u hSw; (try dsimp only at hSw); obtain ⟨h0, ⟨h1, h2⟩, ⟨h3, h4⟩, hz⟩ := FA.out u (HQ.out.trans hSw.out); go_simp; (try with_reducible rfl))); (try simp only [Act.put, List.setIfInBounds_toArray, List.set_cons_zero, List.set_cons_succ]))
            | (refine planWp_skip rfl rfl ?_ ?_; (focus rfl); (try simp only [Act.put, List.setIfInBounds_toArray, List.set_cons_zero, List.set_cons_succ]))
            | (refine planWp_leave rfl rfl ?_ hHeld ?_; (focus rfl); (try simp only [Act.put, List.setIfInBounds_toArray, List.set_cons_zero, List.set_cons_succ]))
            | (refine planWp_do rfl rfl ?_ (fun K hK => ?_); (focus rfl); go_simp; (try go_wp2_with (go_at_call 48; refine (HA2.out _).mono ?_; rintro e wt ⟨rfl, hcg⟩)); refine hK.out _ _ ?_ (fun hHeld2 => ?_); (focus exact Lib.hid (hHeld.out.trans hcg)); clear hK K hHeld hcg; have hHeld := hHeld2; clear hHeld2; (try simp only [Act.put, List.setIfInBounds_toArray, List.set_cons_zero, List.set_cons_succ])))
          refine planWp_nil ?_
          cases hah : aheadB ⟨ak, tk⟩ ⟨aj, tj⟩
          · rw [hah] at HDN
            go_wp2
            refine bodyPost_ret (results_none rfl _ _ _) rfl ?_
            refine ⟨⟨_, rfl⟩, ?_, HC.out.fresh (HQ.out.trans hHeld.out)⟩
            have h9 : OwnD wt B (.slice (some ⟨g, 0, none⟩) l.length c) l := own_keep HR.out (HQ.out.trans hHeld.out) (by simp)
            rw [HJ.out.1] at h9
            rw [HJ.out.2.1, HDN.out, if_neg (by decide)]
            exact h9
          · rw [hah] at HDN
            have HQT := Lib.hid (HQ.out.trans hHeld.out)
            obtain ⟨e0, ⟨e1, e2⟩, EK, EK1⟩ := FA.out wt HQT.out
            obtain ⟨e3, e4⟩ := EK
            clear EK1
            have HRW : Hid (OwnD wt B (.slice (some ⟨g, 0, none⟩) l.length c) l) := Lib.hid (own_keep HR.out HQT.out (by simp))
            have f1 := (HRW.out.at j HKL.out.2.2.2).2.1
            have f2 := (HRW.out.at j HKL.out.2.2.2).2.2
            have f3 := (HRW.out.at k HKL.out.2.2.1).2.1
            have f4 := (HRW.out.at k HKL.out.2.2.1).2.2
            have n1 : ¬ (j * 2 = k * 2) := by have := HKL.out; omega
            have n2 : ¬ (j * 2 + 1 = k * 2) := by have := HKL.out; omega
            have n3 : ¬ (j * 2 = k * 2 + 1) := by have := HKL.out; omega
            have n4 : ¬ (j * 2 + 1 = k * 2 + 1) := by have := HKL.out; omega
            have n5 : ¬ (k * 2 = j * 2) := by have := HKL.out; omega
            have n6 : ¬ (k * 2 + 1 = j * 2) := by have := HKL.out; omega
            have n7 : ¬ (k * 2 = j * 2 + 1) := by have := HKL.out; omega
            have n8 : ¬ (k * 2 + 1 = j * 2 + 1) := by have := HKL.out; omega
            clear FA HA2 HAH hHeld hah
            go_upto_region 5 with fail
            go_region
            obtain ⟨V, hV⟩ : ∃ V, ((((wt.setCell ⟨g, j * 2, none⟩ (.int .i64 ak)).setCell ⟨g, j * 2 + 1, none⟩ (.int .i64 tk)).setCell ⟨g, k * 2, none⟩ (.int .i64 aj)).setCell ⟨g, k * 2 + 1, none⟩ (.int .i64 tj)).drew = V := ⟨_, rfl⟩
            rw [hV]
            have HV : Hid (OwnD V B (.slice (some ⟨g, 0, none⟩) (swapL l j k).length c) (swapL l j k)) := Lib.hid (by
              have h1 := (HRW.out.put j ⟨ak, tk⟩)
              have h2 := h1.put k ⟨aj, tj⟩
              rw [HSW.out, ← hV]
              exact h2)
            have HCV : Hid (Chg [g] W V) := Lib.hid (by
              rw [← hV]
              exact ((((HC.out.fresh HQT.out).setCell (.inl (by simp)) _).setCell (.inl (by simp)) _).setCell (.inl (by simp)) _ |>.setCell (.inl (by simp)) _).drew)
            clear hV e0 e1 e2 e3 e4 f1 f2 f3 f4 n1 n2 n3 n4 n5 n6 n7 n8
            go_wp2
            go_roundw
            case rel => exact ⟨k, swapL l j k, rfl, Lib.hid ⟨by rw [swapL_len]; exact HJ.out.1, by rw [HJ.out.2.1, HDN.out, if_pos rfl], by have := HKL.out; have := HJ.out; have := HL.out; omega⟩, HV, HCV⟩
            case measure => have := HKL.out; have := HJ.out; have := HL.out; simp [intOf]; omega
        · rw [hat] at HKD
          have HKID : Hid (kidM l j = k1) := Lib.hid (by rw [HKD.out, if_pos rfl])
          clear hat
          have HKL : Hid (kidM l j = k1 ∧ j < k1 ∧ k1 < l.length ∧ j < l.length) := Lib.hid ⟨HKID.out, by have := HK.out; omega, by have := HK.out; have := HJ.out; omega, by have := HK.out; have := HJ.out; omega⟩
          have HDN : Hid (downM l j = if aheadB ⟨ak1, tk1⟩ ⟨aj, tj⟩ = true then downM (swapL l j k1) k1 else l) := Lib.hid (by rw [downM, dif_pos HJL.out, HKL.out.1, HGJ.out, HGk1.out])
          have HSW : Hid (swapL l j k1 = (l.set j ⟨ak1, tk1⟩).set k1 ⟨aj, tj⟩) := Lib.hid (by unfold swapL; rw [HGJ.out, HGk1.out])
          have HA2 := Lib.hid (fun w => ahead_any ⟨ak1, tk1⟩ ⟨aj, tj⟩ w)
          go_upto_region 4 with fail
          have hHeld : (fun V : World => Hid (Chg [] wq V)) (World.drew wq) := Lib.hid (Chg.refl _ _).drew
          refine wp_region_plan (fun V : World => Hid (Chg [] wq V)) [(0, true, some 43), (1, true, some 44), (2, true, some 45), (3, true, some 46), (4, true, some 47), (5, true, some 48), (6, true, some 49), (7, true, some 50), (8, true, some 51), (9, true, some 52), (10, true, some 53), (11, true, some 54), (12, true, some 55), (13, true, some 56), (14, false, some 57), (15, true, some 58)] (by kernel_rfl) (by kernel_rfl) (by kernel_rfl) (by kernel_rfl) (fun d c a v w h => by cases d <;> exact h) hHeld ?_
          repeat (first
            | (refine planWp_read (v := ?_) rfl rfl ?_ ?_ ?_; rotate_left; (focus rfl); (focus (intro u hSw; (try dsimp only at hSw); obtain ⟨h0, ⟨h1, h2⟩, hz, h5⟩ := FA.out u (HQ.out.trans hSw.out); obtain ⟨h3, h4⟩ := h5 HK1.out; go_simp; (try with_reducible rfl))); (try simp only [Act.put, List.setIfInBounds_toArray, List.set_cons_zero, List.set_cons_succ]))
            | (refine planWp_skip rfl rfl ?_ ?_; (focus rfl); (try simp only [Act.put, List.setIfInBounds_toArray, List.set_cons_zero, List.set_cons_succ]))
            | (refine planWp_leave rfl rfl ?_ hHeld ?_; (focus rfl); (try simp only [Act.put, List.setIfInBounds_toArray, List.set_cons_zero, List.set_cons_succ]))
            | (refine planWp_do rfl rfl ?_ (fun K hK => ?_); (focus rfl); go_simp; (try go_wp2_with (go_at_call 48; refine (HA2.out _).mono ?_; rintro e wt ⟨rfl, hcg⟩)); refine hK.out _ _ ?_ (fun hHeld2 => ?_); (focus exact Lib.hid (hHeld.out.trans hcg)); clear hK K hHeld hcg; have hHeld := hHeld2; clear hHeld2; (try simp only [Act.put, List.setIfInBounds_toArray, List.set_cons_zero, List.set_cons_succ])))
          refine planWp_nil ?_
          cases hah : aheadB ⟨ak1, tk1⟩ ⟨aj, tj⟩
          · rw [hah] at HDN
            go_wp2
            refine bodyPost_ret (results_none rfl _ _ _) rfl ?_
            refine ⟨⟨_, rfl⟩, ?_, HC.out.fresh (HQ.out.trans hHeld.out)⟩
            have h9 : OwnD wt B (.slice (some ⟨g, 0, none⟩) l.length c) l := own_keep HR.out (HQ.out.trans hHeld.out) (by simp)
            rw [HJ.out.1] at h9
            rw [HJ.out.2.1, HDN.out, if_neg (by decide)]
            exact h9
          · rw [hah] at HDN
            have HQT := Lib.hid (HQ.out.trans hHeld.out)
            obtain ⟨e0, ⟨e1, e2⟩, EK, EK1⟩ := FA.out wt HQT.out
            obtain ⟨e3, e4⟩ := EK1 HK1.out
            clear EK EK1
            have HRW : Hid (OwnD wt B (.slice (some ⟨g, 0, none⟩) l.length c) l) := Lib.hid (own_keep HR.out HQT.out (by simp))
            have f1 := (HRW.out.at j HKL.out.2.2.2).2.1
            have f2 := (HRW.out.at j HKL.out.2.2.2).2.2
            have f3 := (HRW.out.at k1 HKL.out.2.2.1).2.1
            have f4 := (HRW.out.at k1 HKL.out.2.2.1).2.2
            have n1 : ¬ (j * 2 = k1 * 2) := by have := HKL.out; omega
            have n2 : ¬ (j * 2 + 1 = k1 * 2) := by have := HKL.out; omega
            have n3 : ¬ (j * 2 = k1 * 2 + 1) := by have := HKL.out; omega
            have n4 : ¬ (j * 2 + 1 = k1 * 2 + 1) := by have := HKL.out; omega
            have n5 : ¬ (k1 * 2 = j * 2) := by have := HKL.out; omega
            have n6 : ¬ (k1 * 2 + 1 = j * 2) := by have := HKL.out; omega
            have n7 : ¬ (k1 * 2 = j * 2 + 1) := by have := HKL.out; omega
            have n8 : ¬ (k1 * 2 + 1 = j * 2 + 1) := by have := HKL.out; omega
            clear FA HA2 HAH hHeld hah
            go_upto_region 5 with fail
            go_region
            obtain ⟨V, hV⟩ : ∃ V, ((((wt.setCell ⟨g, j * 2, none⟩ (.int .i64 ak1)).setCell ⟨g, j * 2 + 1, none⟩ (.int .i64 tk1)).setCell ⟨g, k1 * 2, none⟩ (.int .i64 aj)).setCell ⟨g, k1 * 2 + 1, none⟩ (.int .i64 tj)).drew = V := ⟨_, rfl⟩
            rw [hV]
            have HV : Hid (OwnD V B (.slice (some ⟨g, 0, none⟩) (swapL l j k1).length c) (swapL l j k1)) := Lib.hid (by
              have h1 := (HRW.out.put j ⟨ak1, tk1⟩)
              have h2 := h1.put k1 ⟨aj, tj⟩
              rw [HSW.out, ← hV]
              exact h2)
            have HCV : Hid (Chg [g] W V) := Lib.hid (by
              rw [← hV]
              exact ((((HC.out.fresh HQT.out).setCell (.inl (by simp)) _).setCell (.inl (by simp)) _).setCell (.inl (by simp)) _ |>.setCell (.inl (by simp)) _).drew)
            clear hV e0 e1 e2 e3 e4 f1 f2 f3 f4 n1 n2 n3 n4 n5 n6 n7 n8
            go_wp2
            go_roundw
            case rel => exact ⟨k1, swapL l j k1, rfl, Lib.hid ⟨by rw [swapL_len]; exact HJ.out.1, by rw [HJ.out.2.1, HDN.out, if_pos rfl], by have := HKL.out; have := HJ.out; have := HL.out; omega⟩, HV, HCV⟩
            case measure => have := HKL.out; have := HJ.out; have := HL.out; simp [intOf]; omega
      · have m2 : ¬ (k1 : Int) < (ds.length : Int) := by omega
        have m3 : decide ((k1 : Int) < (ds.length : Int)) = false := by simp; omega
        have HKID : Hid (kidM l j = k) := Lib.hid (by
          unfold kidM
          rw [show 2 * j + 2 = k1 by omega, hk, if_neg (by have := HJ.out.1; omega)])
        clear hcj hck hck1 hdj hdk hdk1 hk hk1 hj2 hc1 hc2
        go_upto_region 2 with fail
        have hHeld : (fun V : World => Hid (Chg [] wr V)) (World.drew wr) := Lib.hid (Chg.refl _ _).drew
        refine wp_region_plan (fun V : World => Hid (Chg [] wr V)) [(0, true, some 15), (1, true, some 16), (2, true, some 17), (3, true, some 18), (4, true, some 19), (5, true, some 20), (6, true, some 21), (7, true, some 22), (8, true, some 23), (9, true, some 24), (10, true, some 25), (11, true, some 26), (12, true, some 27), (13, true, some 28), (14, true, some 29), (15, true, some 30), (16, true, some 31), (17, true, some 32), (18, true, some 33), (19, true, some 34), (20, true, some 35), (21, true, some 36), (22, true, some 37), (23, true, some 38), (24, false, some 39), (25, true, some 40)] (by kernel_rfl) (by kernel_rfl) (by kernel_rfl) (by kernel_rfl) (fun d c a v w h => by cases d <;> exact h) hHeld ?_
        repeat (first
          | (refine planWp_read (v := ?_) rfl rfl ?_ ?_ ?_; rotate_left; (focus rfl); (focus (intro u hSw; (try dsimp only at hSw); obtain ⟨h0, ⟨h1, h2⟩, ⟨h3, h4⟩, h5⟩ := FA.out u hSw.out; go_simp; (try with_reducible rfl))); (try simp only [Act.put, List.setIfInBounds_toArray, List.set_cons_zero, List.set_cons_succ]))
          | (refine planWp_skip rfl rfl ?_ ?_; (focus rfl); (try simp only [Act.put, List.setIfInBounds_toArray, List.set_cons_zero, List.set_cons_succ]))
          | (refine planWp_leave rfl rfl ?_ hHeld ?_; (focus rfl); (try simp only [Act.put, List.setIfInBounds_toArray, List.set_cons_zero, List.set_cons_succ]))
          | (refine planWp_do rfl rfl ?_ (fun K hK => ?_); (focus rfl); go_simp; (try go_wp2_with (go_at_call 48; refine (HAH.out _).mono ?_; rintro e wq ⟨rfl, hcg⟩)); refine hK.out _ _ ?_ (fun hHeld2 => ?_); (focus exact Lib.hid (hHeld.out.trans hcg)); clear hK K hHeld hcg; have hHeld := hHeld2; clear hHeld2; (try simp only [Act.put, List.setIfInBounds_toArray, List.set_cons_zero, List.set_cons_succ])))
        refine planWp_nil ?_
        obtain ⟨wq, hwq⟩ : ∃ wq, wr.drew = wq := ⟨_, rfl⟩
        have HQ : Hid (Chg [] wr wq) := Lib.hid (by rw [← hwq]; exact (Chg.refl _ _).drew)
        rw [hwq]
        clear hHeld hwq
        have HKL : Hid (kidM l j = k ∧ j < k ∧ k < l.length ∧ j < l.length) := Lib.hid ⟨HKID.out, by have := HK.out; omega, by have := HK.out; have := HJ.out; omega, by have := HK.out; have := HJ.out; omega⟩
        have HDN : Hid (downM l j = if aheadB ⟨ak, tk⟩ ⟨aj, tj⟩ = true then downM (swapL l j k) k else l) := Lib.hid (by rw [downM, dif_pos HJL.out, HKL.out.1, HGJ.out, HGk.out])
        have HSW : Hid (swapL l j k = (l.set j ⟨ak, tk⟩).set k ⟨aj, tj⟩) := Lib.hid (by unfold swapL; rw [HGJ.out, HGk.out])
        have HA2 := Lib.hid (fun w => ahead_any ⟨ak, tk⟩ ⟨aj, tj⟩ w)
        go_upto_region 4 with fail
        have hHeld : (fun V : World => Hid (Chg [] wq V)) (World.drew wq) := Lib.hid (Chg.refl _ _).drew
        refine wp_region_plan (fun V : World => Hid (Chg [] wq V)) [(0, true, some 43), (1, true, some 44), (2, true, some 45), (3, true, some 46), (4, true, some 47), (5, true, some 48), (6, true, some 49), (7, true, some 50), (8, true, some 51), (9, true, some 52), (10, true, some 53), (11, true, some 54), (12, true, some 55), (13, true, some 56), (14, false, some 57), (15, true, some 58)] (by kernel_rfl) (by kernel_rfl) (by kernel_rfl) (by kernel_rfl) (fun d c a v w h => by cases d <;> exact h) hHeld ?_
        repeat (first
          | (refine planWp_read (v := ?_) rfl rfl ?_ ?_ ?_; rotate_left; (focus rfl); (focus (intro u hSw; (try dsimp only at hSw); obtain ⟨h0, ⟨h1, h2⟩, ⟨h3, h4⟩, hz⟩ := FA.out u (HQ.out.trans hSw.out); go_simp; (try with_reducible rfl))); (try simp only [Act.put, List.setIfInBounds_toArray, List.set_cons_zero, List.set_cons_succ]))
          | (refine planWp_skip rfl rfl ?_ ?_; (focus rfl); (try simp only [Act.put, List.setIfInBounds_toArray, List.set_cons_zero, List.set_cons_succ]))
          | (refine planWp_leave rfl rfl ?_ hHeld ?_; (focus rfl); (try simp only [Act.put, List.setIfInBounds_toArray, List.set_cons_zero, List.set_cons_succ]))
          | (refine planWp_do rfl rfl ?_ (fun K hK => ?_); (focus rfl); go_simp; (try go_wp2_with (go_at_call 48; refine (HA2.out _).mono ?_; rintro e wt ⟨rfl, hcg⟩)); refine hK.out _ _ ?_ (fun hHeld2 => ?_); (focus exact Lib.hid (hHeld.out.trans hcg)); clear hK K hHeld hcg; have hHeld := hHeld2; clear hHeld2; (try simp only [Act.put, List.setIfInBounds_toArray, List.set_cons_zero, List.set_cons_succ])))
        refine planWp_nil ?_
        cases hah : aheadB ⟨ak, tk⟩ ⟨aj, tj⟩
        · rw [hah] at HDN
          go_wp2
          refine bodyPost_ret (results_none rfl _ _ _) rfl ?_
          refine ⟨⟨_, rfl⟩, ?_, HC.out.fresh (HQ.out.trans hHeld.out)⟩
          have h9 : OwnD wt B (.slice (some ⟨g, 0, none⟩) l.length c) l := own_keep HR.out (HQ.out.trans hHeld.out) (by simp)
          rw [HJ.out.1] at h9
          rw [HJ.out.2.1, HDN.out, if_neg (by decide)]
          exact h9
        · rw [hah] at HDN
          have HQT := Lib.hid (HQ.out.trans hHeld.out)
          obtain ⟨e0, ⟨e1, e2⟩, EK, EK1⟩ := FA.out wt HQT.out
          obtain ⟨e3, e4⟩ := EK
          clear EK1
          have HRW : Hid (OwnD wt B (.slice (some ⟨g, 0, none⟩) l.length c) l) := Lib.hid (own_keep HR.out HQT.out (by simp))
          have f1 := (HRW.out.at j HKL.out.2.2.2).2.1
          have f2 := (HRW.out.at j HKL.out.2.2.2).2.2
          have f3 := (HRW.out.at k HKL.out.2.2.1).2.1
          have f4 := (HRW.out.at k HKL.out.2.2.1).2.2
          have n1 : ¬ (j * 2 = k * 2) := by have := HKL.out; omega
          have n2 : ¬ (j * 2 + 1 = k * 2) := by have := HKL.out; omega
          have n3 : ¬ (j * 2 = k * 2 + 1) := by have := HKL.out; omega
          have n4 : ¬ (j * 2 + 1 = k * 2 + 1) := by have := HKL.out; omega
          have n5 : ¬ (k * 2 = j * 2) := by have := HKL.out; omega
          have n6 : ¬ (k * 2 + 1 = j * 2) := by have := HKL.out; omega
          have n7 : ¬ (k * 2 = j * 2 + 1) := by have := HKL.out; omega
          have n8 : ¬ (k * 2 + 1 = j * 2 + 1) := by have := HKL.out; omega
          clear FA HA2 HAH hHeld hah
          go_upto_region 5 with fail
          go_region
          obtain ⟨V, hV⟩ : ∃ V, ((((wt.setCell ⟨g, j * 2, none⟩ (.int .i64 ak)).setCell ⟨g, j * 2 + 1, none⟩ (.int .i64 tk)).setCell ⟨g, k * 2, none⟩ (.int .i64 aj)).setCell ⟨g, k * 2 + 1, none⟩ (.int .i64 tj)).drew = V := ⟨_, rfl⟩
          rw [hV]
          have HV : Hid (OwnD V B (.slice (some ⟨g, 0, none⟩) (swapL l j k).length c) (swapL l j k)) := Lib.hid (by
            have h1 := (HRW.out.put j ⟨ak, tk⟩)
            have h2 := h1.put k ⟨aj, tj⟩
            rw [HSW.out, ← hV]
            exact h2)
          have HCV : Hid (Chg [g] W V) := Lib.hid (by
            rw [← hV]
            exact ((((HC.out.fresh HQT.out).setCell (.inl (by simp)) _).setCell (.inl (by simp)) _).setCell (.inl (by simp)) _ |>.setCell (.inl (by simp)) _).drew)
          clear hV e0 e1 e2 e3 e4 f1 f2 f3 f4 n1 n2 n3 n4 n5 n6 n7 n8
          go_wp2
          go_roundw
          case rel => exact ⟨k, swapL l j k, rfl, Lib.hid ⟨by rw [swapL_len]; exact HJ.out.1, by rw [HJ.out.2.1, HDN.out, if_pos rfl], by have := HKL.out; have := HJ.out; have := HL.out; omega⟩, HV, HCV⟩
          case measure => have := HKL.out; have := HJ.out; have := HL.out; simp [intOf]; omega
    · have m1 : (ds.length : Int) ≤ (k : Int) := by omega
      have HDN : Hid (downM l j = l) := Lib.hid (by rw [downM, dif_neg (by have := HJ.out; omega)])
      clear hk hk1 hj2 hc1
      go_wp2
      refine bodyPost_ret (results_none rfl _ _ _) rfl ?_
      refine ⟨⟨_, rfl⟩, ?_, HC.out⟩
      have h9 := HR.out
      rw [HJ.out.1] at h9
      rw [HJ.out.2.1, HDN.out]
      exact h9
end Go.Proofs.YtfkokbeloenfdaaDoor.krn
