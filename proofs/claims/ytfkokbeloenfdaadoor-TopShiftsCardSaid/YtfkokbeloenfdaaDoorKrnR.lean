/- The kernel: Release, where none is active. -/
import Derived.Test.YtfkokbeloenfdaaDoorKrnQ
namespace Go.Proofs.YtfkokbeloenfdaaDoor.krn
open Go Go.RowKit Go.Proofs.YtfkokbeloenfdaaDoor.kit Go.Shelf
set_option linter.unusedVariables false
set_option linter.unusedSimpArgs false
set_option maxRecDepth 20000
theorem add_in {t d : Int} (h0 : 0 ≤ t) (h1 : t ≤ 4096) (h2 : 1 ≤ d) (h3 : d ≤ 1048576) : Go.Proofs.YtfkokbeloenfdaaDoor.word.inside (Go.Proofs.YtfkokbeloenfdaaDoor.word.inside t + Go.Proofs.YtfkokbeloenfdaaDoor.word.inside d) = t + d := by
  unfold Go.Proofs.YtfkokbeloenfdaaDoor.word.inside; omega
set_option maxHeartbeats 8000000 in
theorem Release_free (B db n : Nat) (s : Led) (q : LedQ) (i : Nat) (t : Int) (w : World) (h : LedAt w B db n s q) (hk : LedOK s n) (hT : bitm.Tab w) (hi : i < s.l.length) (h0 : 0 ≤ t) (h1 : t ≤ 4096) (hn : n < 20000) (hB : B ≤ w.heap.size) (hb : s.act.testBit i = false) :
    Calls Tryd.prog 43 #[.pointer (some ⟨db, 0, none⟩), .int .i64 (i : Int), .int .i64 t] w (RelPost w B db n s q i t) := by
  obtain ⟨no, hno⟩ : ∃ z, (s.counts (i : Int)).getD 0 = z := ⟨_, rfl⟩
  have hnob : 0 ≤ no ∧ no ≤ n := by
    rw [← hno]
    cases hh : s.counts (i : Int) with
    | none => simp
    | some v => exact hk.cnt _ v hh
  obtain ⟨d, hd⟩ : ∃ d, s.l[i]? = some d := ⟨_, List.getElem?_eq_getElem hi⟩
  have hfl := (hk.fitl d (List.mem_of_getElem? hd)).2.2
  have hll := hk.llen
  have hact := hk.act
  have hal := hk.alen
  obtain ⟨na, hna⟩ : ∃ z, s.all.length = z := ⟨_, rfl⟩
  obtain ⟨nl, hnl⟩ : ∃ z, s.l.length = z := ⟨_, rfl⟩
  obtain ⟨am, ham⟩ : ∃ z, s.act ||| 2 ^ i = z := ⟨_, rfl⟩
  have hM : Hid (relM s i t = ({ s with counts := upd s.counts (i : Int) (some (no + 1)), now := upd s.now (i : Int) (some (na : Int)), act := am, all := s.all ++ [⟨i, no, t, t + d.deadline, -1, -1, 0, false⟩] }, no, true)) := Lib.hid (by unfold relM; rw [if_neg (by rw [hb]; decide), hno, hna, ham, hd]; rfl)
  have HT := Lib.hid (fun V => time_any t h0 h1 V)
  have HH := Lib.hid (has_any B db n s q i w h hk (by omega))
  rw [hb] at HH
  have HS := Lib.hid (⟨h, hk⟩ : _ ∧ _)
  have HBB := Lib.hid hB
  have HNN := Lib.hid hn
  have HI : Hid (I64 (i : Int)) := Lib.hid (i64_of (by omega) (by omega))
  have HINO : Hid (I64 (no + 1)) := Lib.hid (i64_of (by omega) (by omega))
  have HINA : Hid (I64 (na : Int)) := Lib.hid (i64_of (by omega) (by omega))
  have b0 : w.cell? ⟨db, 0, none⟩ = some (.slice q.la nl q.lc) := by rw [← hnl]; exact h.box.cell rfl
  have b3 : w.cell? ⟨db, 3, none⟩ = some (.map (some q.cb)) := h.box.cell rfl
  have m0 : ¬ (i : Int) < 0 := by omega
  have m1 : ¬ (nl : Int) ≤ (i : Int) := by omega
  have k1 : 0 ≤ no := hnob.1
  have k2 : no ≤ 40000 := by omega
  have HLT := Lib.hid h.lt
  have HNL := Lib.hid (⟨hnl, hna, ham, hno, hi, (by omega : i ≤ 20), (by omega : s.act < 18446744073709551616), hact, hd⟩ : _ ∧ _ ∧ _ ∧ _ ∧ _ ∧ _ ∧ _ ∧ _ ∧ _)
  have HFL := Lib.hid hfl
  have HTT := Lib.hid (⟨h0, h1⟩ : _ ∧ _)
  clear h hk hi hll hB hn hb h0 h1 hal hact hnob hfl hd hno hna hnl ham
  go_enter Tryd.func43, Tryd.ntmps43
  go_wp2_with (first
    | (go_at_call 40; refine (HT.out _).mono ?_; rintro e w' ⟨rfl, rfl⟩)
    | (go_at_call 31; refine HH.out.mono ?_; rintro e w' ⟨rfl, rfl⟩)
    | (at_lookup; refine wpList_look _ rfl (.tmp 44) (.tmp 45) rfl q.cb n s.counts rfl HS.out.1.mc (i : Int) rfl HI.out no HNL.out.2.2.2.1 ?_)
    | (at_lookup; refine wpList_look _ rfl (.tmp 50) (.tmp 51) rfl q.cb n s.counts rfl HS.out.1.mc (i : Int) rfl HI.out no HNL.out.2.2.2.1 ?_)
    | (at_mapUpdate; refine wpList_put _ rfl (.tmp 50) (.tmp 51) (.tmp 53) rfl q.cb n s.counts rfl HS.out.1.mc (by have := HNN.out; omega) (i : Int) rfl HI.out (no + 1) rfl HINO.out ?_; intro w1 hm1 hc1; have hs1 := HS.out.1.setCounts hc1 (Nat.le_succ n) hm1; have HS1 := Lib.hid hs1; have HC1 := Lib.hid hc1; clear hs1 hm1 hc1))
  simp only [Act.put, List.setIfInBounds_toArray, List.set_cons_zero, List.set_cons_succ]
  have HS1d := Lib.hid (HS1.out.fresh ((Chg.refl [] w1).drew))
  obtain ⟨w2, hrun, hm2, hc2⟩ := (HS.out.1.mn.keep (HC1.out.drew) (fun hm => HS.out.1.nc (List.mem_singleton.1 hm))).put (by have := HNN.out; omega) HI.out HINA.out
  have b1 : w1.cell? ⟨db, 1, none⟩ = some (.slice q.aa na q.ac) := by rw [← HNL.out.2.1]; exact HS1.out.box.cell rfl
  have b2 : w1.cell? ⟨db, 2, none⟩ = some (.map (some q.nb)) := HS1.out.box.cell rfl
  go_region
  have HS2 := Lib.hid (HS1d.out.setNow hc2 (Nat.le_refl _) hm2)
  have HC2 : Hid (Chg [q.nb] w1 w2) := Lib.hid (((Chg.refl _ w1).drew).trans hc2)
  clear hrun hm2 hc2 b0 b1 b2 b3
  have b4 : w2.cell? ⟨db, 4, none⟩ = some (.int .u64 (s.act : Int)) := HS2.out.box.cell rfl
  have f4 := HS2.out.box.free 4
  have HP : Hid (∀ V, Calls Tryd.prog 55 #[.int .u64 (s.act : Int), .int .i64 (i : Int)] V fun e w' => e = .returned (.int .u64 (am : Int)) ∧ V = w') := Lib.hid (fun V => by
    rw [← HNL.out.2.2.1]
    exact (bitm.Put_any s.act i HNL.out.2.2.2.2.2.2.1 HNL.out.2.2.2.2.2.1 V).mono (fun e w' h => ⟨h.1, h.2.symm⟩))
  go_upto_region 11 with (first | (go_at_call 55; refine (HP.out _).mono ?_; rintro e w' ⟨rfl, rfl⟩))
  obtain ⟨w3, hw3⟩ : ∃ w3, w2.setCell ⟨db, 4, none⟩ (.int .u64 (am : Int)) = w3 := ⟨_, rfl⟩
  have HS3 := Lib.hid (HS2.out.setAct am)
  have HC3 : Hid (Chg [db] w2 w3) := Lib.hid (by rw [← hw3]; exact (Chg.refl _ w2).setCell (.inl (by simp)) _)
  rw [hw3] at HS3 ⊢
  clear hw3 b4 f4
  obtain ⟨gl, cl, hvl, hglB, hgl⟩ := own_addr HS3.out.rl (by show 0 < s.l.length; have := HNL.out.2.2.2.2.1; omega)
  simp only [Value.slice.injEq] at hvl
  obtain ⟨hla, -, hlc⟩ := hvl
  have HIX := Lib.hid (index_at (size := 7) Tryd.underlying22 szTask gl nl q.lc i (by have := HNL.out.1; have := HNL.out.2.2.2.2.1; omega))
  have FB : Hid (∀ V, Chg (q.aa.map (·.block)).toList w3 V → V.cell? ⟨db, 1, none⟩ = some (.slice q.aa na q.ac) ∧ V.cell? ⟨db, 0, none⟩ = some (.slice (some ⟨gl, 0, none⟩) nl q.lc) ∧ V.cell? ⟨gl, i * 7 + 4, none⟩ = some (.int .i64 d.deadline)) := Lib.hid (fun V hV => (by
    have hm : ∀ y, y ∈ (q.aa.map (·.block)).toList → (Value.slice q.aa s.all.length q.ac).ownBlock = some y := fun y hy => by
      rw [own_slice]; exact Option.mem_toList.1 hy
    have e1 : w3.cell? ⟨db, 1, none⟩ = some (.slice q.aa na q.ac) := by rw [← HNL.out.2.1]; exact HS3.out.box.cell rfl
    have e0 : w3.cell? ⟨db, 0, none⟩ = some (.slice (some ⟨gl, 0, none⟩) nl q.lc) := by rw [← HNL.out.1, ← hla]; exact HS3.out.box.cell rfl
    have hrl := HS3.out.rl
    simp only [hla] at hrl
    have e2 := (row_cell (enc := Tk.cells) (sz := 7) (fun _ => rfl) hrl i 4 (by decide) d HNL.out.2.2.2.2.2.2.2.2 _ rfl).1
    have hn1 : db ∉ (q.aa.map (·.block)).toList := fun hm' => own_type HS3.out.ra HS3.out.box (by decide) _ (hm _ hm') rfl
    have hn2 : gl ∉ (q.aa.map (·.block)).toList := fun hm' => own_type2 HS3.out.rl HS3.out.ra (by decide) gl (by simp only [hla]; rfl) (hm _ hm')
    exact ⟨hV.keep e1 hn1, hV.keep e0 hn1, hV.keep e2 hn2⟩))
  have HADD : Hid (∀ V, Calls Tryd.prog 56 #[.int .i64 t, .int .i64 d.deadline] V fun e w' => e = .returned (.int .i64 (t + d.deadline)) ∧ V = w') := Lib.hid (fun V => by
    have := Go.Proofs.YtfkokbeloenfdaaDoor.word.Add_any t d.deadline V
    rwa [add_in HTT.out.1 HTT.out.2 HFL.out.1 HFL.out.2] at this)
  obtain ⟨dl, hdl⟩ : ∃ z, t + d.deadline = z := ⟨_, rfl⟩
  have HDL := Lib.hid hdl
  rw [hdl] at HADD
  obtain ⟨dd, hdd⟩ : ∃ z, d.deadline = z := ⟨_, rfl⟩
  rw [hdd] at HADD FB
  clear hla hlc hglB hgl hdl hdd
  have hHeld : (fun V : World => Hid (Chg (q.aa.map (·.block)).toList w3 V)) (World.drew w3) := Lib.hid (Chg.refl _ _).drew
  refine wp_region_planT (fun V : World => Hid (Chg (q.aa.map (·.block)).toList w3 V)) 23 [(0, true, some 73), (1, true, some 74), (2, true, some 75), (3, true, some 76), (4, true, some 77), (5, true, some 78), (6, true, some 79), (7, true, some 80), (8, true, some 81), (9, true, some 82), (10, true, some 83), (11, true, some 84), (12, true, some 85), (13, true, some 86), (14, true, some 87), (15, true, some 88), (16, true, some 89), (17, false, some 90), (18, true, some 91), (19, false, some 92), (20, false, some 93), (21, true, some 94), (22, true, some 95)] (by kernel_rfl) (by kernel_rfl) (by kernel_rfl) (by kernel_rfl) (by kernel_rfl) (fun d c a v w h => by cases d <;> exact h) hHeld ?_
  have ixl := HIX.out
  repeat (first
    | (refine planT_read (v := ?_) rfl rfl ?_ ?_ ?_; rotate_left; (focus rfl); (focus (intro u hSw; (try dsimp only at hSw); obtain ⟨h1, h2, h3⟩ := FB.out u hSw.out; go_simp; (try with_reducible rfl))); (try simp only [Act.put, List.setIfInBounds_toArray, List.set_cons_zero, List.set_cons_succ])))
  refine planT_do rfl rfl ?_ (fun K hK => ?_)
  focus rfl
  go_simp
  (try go_wp2_with (go_at_call 56; refine (HADD.out _).mono ?_; rintro e w' ⟨rfl, rfl⟩))
  refine hK.out _ _ ?_ (fun hHeld2 => ?_)
  focus exact hHeld
  clear hK K hHeld2
  try simp only [Act.put, List.setIfInBounds_toArray, List.set_cons_zero, List.set_cons_succ]
  repeat (first
    | (refine planT_read (v := ?_) rfl rfl ?_ ?_ ?_; rotate_left; (focus rfl); (focus (intro u hSw; go_simp; (try with_reducible rfl))); (try simp only [Act.put, List.setIfInBounds_toArray, List.set_cons_zero, List.set_cons_succ])))
  refine planT_do rfl rfl ?_ (fun K hK => ?_)
  focus rfl
  go_simp
  go_wp2_with fail
  refine hK.out _ _ ?_ (fun hHeld2 => ?_)
  focus exact Lib.hid (hHeld.out.alloc _)
  clear hK K
  try simp only [Act.put, List.setIfInBounds_toArray, List.set_cons_zero, List.set_cons_succ]
  have HOA : Hid ((w3.drew.alloc (.cells #[.int .i64 (i : Int), .int .i64 no, .int .i64 t, .int .i64 dl, .int .i64 (-1), .int .i64 (-1), .int .i64 0, .bool false] 60)).ownsRow B 60 8 (.slice q.aa na q.ac) na (s.all.flatMap Jb.cells)) := Lib.hid (by
    have := HS3.out.ra
    rw [← HNL.out.2.1]
    exact own_keep this (((Chg.refl [] w3).drew).alloc _) (by simp))
  have HBN := Lib.hid (Blk.new w3.drew #[.int .i64 (i : Int), .int .i64 no, .int .i64 t, .int .i64 dl, .int .i64 (-1), .int .i64 (-1), .int .i64 0, .bool false] 60)
  obtain ⟨i0, hi0, hz0, hz1, hz2⟩ := info_parts infoJob
  refine planT_do rfl rfl ?_ (fun K hK => ?_)
  focus rfl
  refine wp_append_row (o := ⟨some 93, _, _, _, _, _⟩) (.tmp 77) (.tmp 92) 46 rfl B 60 i0 (.agg #[.int .i64 0, .int .i64 0, .int .i64 0, .int .i64 0, .int .i64 0, .int .i64 0, .int .i64 0, .bool false]) 8 64 Tryd.underlying46 hi0 hz0 hz1 hz2 rfl (by decide) (.slice q.aa na q.ac) na (s.all.flatMap Jb.cells) rfl HOA.out w3.drew.heap.size [.int .i64 (i : Int), .int .i64 no, .int .i64 t, .int .i64 dl, .int .i64 (-1), .int .i64 (-1), .int .i64 0, .bool false] rfl rfl (fun j u hu => HBN.out.cell (by rw [← Array.getElem?_toList]; exact hu)) (by simp [Value.oneCell']) (by have h1 := HS.out.2.alen; have h2 := HNN.out; have h3 := HNL.out.2.1; unfold maxLen; omega) (by have h1 := HS.out.2.alen; have h2 := HNN.out; have h3 := HNL.out.2.1; omega) (by have h1 := HBB.out; have h2 := HC1.out.size; have h3 := HC2.out.size; have h4 := HC3.out.size; simp; omega) ?_
  intro v' w4 hown' hgrow hblk
  have HOW := Lib.hid hown'
  have HG4 : Hid (Chg (q.aa.map (·.block)).toList w3 w4) := Lib.hid ((((Chg.refl _ w3).drew).alloc _).grown hgrow (fun z hz => .inl (Option.mem_toList.2 (by rw [own_slice] at hz; exact hz))))
  have HNB : Hid (∀ y, v'.ownBlock = some y → (q.aa.map (·.block)) = some y ∨ w.heap.size ≤ y) := Lib.hid (fun y hy => by
    rcases hblk y hy with h | h
    · exact .inl (by rw [← h, own_slice])
    · refine .inr ?_
      rw [h]
      have h2 := HC1.out.size; have h3 := HC2.out.size; have h4 := HC3.out.size; simp; omega)
  obtain ⟨a2, c2, rfl⟩ := own_open hown'
  refine hK.out _ _ ?_ (fun hHeld3 => ?_)
  focus exact HG4
  clear hown' hgrow hblk hK K hHeld2 hHeld3 hHeld
  try simp only [Act.put, List.setIfInBounds_toArray, List.set_cons_zero, List.set_cons_succ]
  repeat (first
    | (refine planT_read (v := ?_) rfl rfl ?_ ?_ ?_; rotate_left; (focus rfl); (focus (intro u hSw; go_simp; (try with_reducible rfl))); (try simp only [Act.put, List.setIfInBounds_toArray, List.set_cons_zero, List.set_cons_succ])))
  refine planT_last rfl rfl (fun K hK => ?_)
  have hm : ∀ y, y ∈ (q.aa.map (·.block)).toList → (Value.slice q.aa s.all.length q.ac).ownBlock = some y := fun y hy => by
    rw [own_slice]; exact Option.mem_toList.1 hy
  have hb4 := HS3.out.box.keep HG4.out (fun hm' => own_type HS3.out.ra HS3.out.box (by decide) _ (hm _ hm') rfl)
  have f1 := hb4.free 1
  have b1 : w4.cell? ⟨db, 1, none⟩ = some (.slice q.aa na q.ac) := by rw [← HNL.out.2.1]; exact hb4.cell rfl
  clear hb4 hm
  go_wp2
  refine hK.out _ _ ?_
  clear hK K b1 f1
  go_wp2
  refine bodyPost_ret (results_tmp2 rfl _ _ _) rfl ?_
  have hg := HS3.out.growAll HG4.out ⟨i, no, t, t + d.deadline, -1, -1, 0, false⟩ a2 c2 (by
    have := HOW.out
    show w4.ownsRow B _ 8 (.slice a2 (s.all.length + 1) c2) (s.all.length + 1) (s.all.flatMap Jb.cells ++ _)
    rw [HNL.out.2.1, HDL.out]; exact this)
  refine ⟨by rw [hM.out]; rfl, ⟨{ q with aa := a2, ac := c2 }, ?_, fun y hy => ?_⟩, ?_⟩
  · rw [hM.out]
    have e : (s.all.length + 1) = na + 1 := by rw [HNL.out.2.1]
    rw [← e]
    exact hg
  · rcases LedQ.mem hy with rfl | rfl | rfl | h1 | h1 | h1
    · exact .inl (by simp [LedQ.bs])
    · exact .inl (by simp [LedQ.bs])
    · exact .inl (by simp [LedQ.bs])
    · exact .inl (by simp only at h1; simp [LedQ.bs, h1])
    · rcases HNB.out y (by rw [own_slice]; exact h1) with h2 | h2
      · exact .inl (by simp [LedQ.bs, h2])
      · exact .inr h2
    · exact .inl (by simp only at h1; simp [LedQ.bs, h1])
  · have e1 : Chg (q.bs db) w w1 := HC1.out.mono (fun y hy => by have := List.mem_singleton.1 hy; subst this; simp [LedQ.bs])
    have e2 : Chg (q.bs db) w w2 := e1.trans (HC2.out.mono (fun y hy => by have := List.mem_singleton.1 hy; subst this; simp [LedQ.bs]))
    have e3 : Chg (q.bs db) w w3 := e2.trans (HC3.out.mono (fun y hy => by have := List.mem_singleton.1 hy; subst this; simp [LedQ.bs]))
    have e4 : Chg (q.bs db) w w4 := e3.trans (HG4.out.mono (fun y hy => by simp only [LedQ.bs, List.mem_cons, List.mem_append]; exact .inr (.inr (.inr (.inl (.inr hy))))))
    exact e4.setCell (.inl (by simp [LedQ.bs])) _
theorem Release_any (B db n : Nat) (s : Led) (q : LedQ) (i : Nat) (t : Int) (w : World) (h : LedAt w B db n s q) (hk : LedOK s n) (hT : bitm.Tab w) (hi : i < s.l.length) (h0 : 0 ≤ t) (h1 : t ≤ 4096) (hn : n < 20000) (hB : B ≤ w.heap.size) :
    Calls Tryd.prog 43 #[.pointer (some ⟨db, 0, none⟩), .int .i64 (i : Int), .int .i64 t] w (RelPost w B db n s q i t) := by
  cases hb : s.act.testBit i with
  | true => exact Release_over B db n s q i t w h hk hi h0 h1 hn hB hb
  | false => exact Release_free B db n s q i t w h hk hT hi h0 h1 hn hB hb
end Go.Proofs.YtfkokbeloenfdaaDoor.krn
