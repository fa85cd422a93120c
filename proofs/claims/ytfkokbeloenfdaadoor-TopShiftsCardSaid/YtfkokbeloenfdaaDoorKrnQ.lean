/- The kernel: Release. -/
import Derived.RegionTactic
import Derived.BigRegion
import Derived.Test.YtfkokbeloenfdaaDoorKrnP
namespace Go.Proofs.YtfkokbeloenfdaaDoor.krn
open Go Go.RowKit Go.Proofs.YtfkokbeloenfdaaDoor.kit Go.Shelf
set_option linter.unusedVariables false
set_option linter.unusedSimpArgs false
set_option maxRecDepth 20000
theorem LedAt.growAll {w w3 : World} {B db n : Nat} {s : Led} {q : LedQ} (h : LedAt w B db n s q) (k : Chg (q.aa.map (·.block)).toList w w3) (x : Jb) (a2 : Option Addr) (c2 : Nat)
    (hr : w3.ownsRow B 60 8 (.slice a2 (s.all.length + 1) c2) (s.all.length + 1) (s.all.flatMap Jb.cells ++ x.cells)) :
    LedAt (w3.setCell ⟨db, 1, none⟩ (.slice a2 (s.all.length + 1) c2)) B db n { s with all := s.all ++ [x] } { q with aa := a2, ac := c2 } := by
  have hm : ∀ y, y ∈ (q.aa.map (·.block)).toList → (Value.slice q.aa s.all.length q.ac).ownBlock = some y := fun y hy => by
    rw [own_slice]; exact Option.mem_toList.1 hy
  have hb3 : Blk w3 db #[.slice q.la s.l.length q.lc, .slice q.aa s.all.length q.ac, .map (some q.nb), .map (some q.cb), .int .u64 (s.act : Int), .slice q.oa s.overs.length q.oc] 90 := h.box.keep k (fun hm' => own_type h.ra h.box (by decide) _ (hm _ hm') rfl)
  have k1 : Chg [db] w3 (w3.setCell ⟨db, 1, none⟩ (.slice a2 (s.all.length + 1) c2)) := (Chg.refl _ w3).setCell (.inl (by simp)) _
  have hs : ∀ {y}, y ∈ [db] → y = db := fun h => List.mem_singleton.1 h
  have hl : (s.all ++ [x]).length = s.all.length + 1 := by simp
  refine ⟨?_, ?_, ?_, ?_, ?_, ?_, h.nc⟩
  · rw [hl]
    exact hb3.set 1 _
  · exact own_keep (own_keep h.rl k (fun y hy hm' => own_type2 h.rl h.ra (by decide) y hy (hm y hm'))) k1 (fun y hy hm' => own_type h.rl h.box (by decide) y hy (hs hm'))
  · show World.ownsRow _ B _ 8 (.slice a2 (s.all ++ [x]).length c2) (s.all ++ [x]).length ((s.all ++ [x]).flatMap Jb.cells)
    rw [hl, List.flatMap_append]
    have := own_keep hr k1 (fun y hy hm' => own_type hr hb3 (by decide) y hy (hs hm'))
    simpa using this
  · exact (h.mn.keep k (fun hm' => h.mn.ne_row h.ra _ (hm _ hm') rfl)).keep k1 (fun hm' => h.mn.ne_blk h.box (hs hm'))
  · exact (h.mc.keep k (fun hm' => h.mc.ne_row h.ra _ (hm _ hm') rfl)).keep k1 (fun hm' => h.mc.ne_blk h.box (hs hm'))
  · exact own_keep (own_keep h.ro k (fun y hy hm' => own_type2 h.ro h.ra (by decide) y hy (hm y hm'))) k1 (fun y hy hm' => own_type h.ro h.box (by decide) y hy (hs hm'))
theorem LedAt.growOvers {w w3 : World} {B db n : Nat} {s : Led} {q : LedQ} (h : LedAt w B db n s q) (k : Chg (q.oa.map (·.block)).toList w w3) (x : Du) (a2 : Option Addr) (c2 : Nat)
    (hr : OwnD w3 B (.slice a2 (s.overs ++ [x]).length c2) (s.overs ++ [x])) :
    LedAt (w3.setCell ⟨db, 5, none⟩ (.slice a2 (s.overs ++ [x]).length c2)) B db n { s with overs := s.overs ++ [x] } { q with oa := a2, oc := c2 } := by
  have hm : ∀ y, y ∈ (q.oa.map (·.block)).toList → (Value.slice q.oa s.overs.length q.oc).ownBlock = some y := fun y hy => by
    rw [own_slice]; exact Option.mem_toList.1 hy
  have hb3 : Blk w3 db #[.slice q.la s.l.length q.lc, .slice q.aa s.all.length q.ac, .map (some q.nb), .map (some q.cb), .int .u64 (s.act : Int), .slice q.oa s.overs.length q.oc] 90 := h.box.keep k (fun hm' => own_type h.ro h.box (by decide) _ (hm _ hm') rfl)
  have k1 : Chg [db] w3 (w3.setCell ⟨db, 5, none⟩ (.slice a2 (s.overs ++ [x]).length c2)) := (Chg.refl _ w3).setCell (.inl (by simp)) _
  have hs : ∀ {y}, y ∈ [db] → y = db := fun h => List.mem_singleton.1 h
  refine ⟨hb3.set 5 _, ?_, ?_, ?_, ?_, ?_, h.nc⟩
  · exact own_keep (own_keep h.rl k (fun y hy hm' => own_type2 h.rl h.ro (by decide) y hy (hm y hm'))) k1 (fun y hy hm' => own_type h.rl h.box (by decide) y hy (hs hm'))
  · exact own_keep (own_keep h.ra k (fun y hy hm' => own_type2 h.ra h.ro (by decide) y hy (hm y hm'))) k1 (fun y hy hm' => own_type h.ra h.box (by decide) y hy (hs hm'))
  · exact (h.mn.keep k (fun hm' => h.mn.ne_row h.ro _ (hm _ hm') rfl)).keep k1 (fun hm' => h.mn.ne_blk h.box (hs hm'))
  · exact (h.mc.keep k (fun hm' => h.mc.ne_row h.ro _ (hm _ hm') rfl)).keep k1 (fun hm' => h.mc.ne_blk h.box (hs hm'))
  · exact own_keep hr k1 (fun y hy hm' => own_type hr hb3 (by decide) y hy (hs hm'))
def relM (s : Led) (i : Nat) (t : Int) : Led × Int × Bool :=
  if s.act.testBit i = true then ({ s with overs := s.overs ++ [⟨t, i⟩] }, 0, false)
  else ({ s with counts := upd s.counts (i : Int) (some ((s.counts (i : Int)).getD 0 + 1)), now := upd s.now (i : Int) (some (s.all.length : Int)), act := s.act ||| 2 ^ i, all := s.all ++ [⟨i, (s.counts (i : Int)).getD 0, t, t + ((s.l[i]?).map (·.deadline)).getD 0, -1, -1, 0, false⟩] }, (s.counts (i : Int)).getD 0, true)
theorem relM_ok {s : Led} {n : Nat} (h : LedOK s n) (i : Nat) (t : Int) (hi : i < s.l.length) (h0 : 0 ≤ t) (h1 : t ≤ 4096) : LedOK (relM s i t).1 (n + 1) ∧ (relM s i t).1.l = s.l := by
  have hll := h.llen
  have hc : 0 ≤ (s.counts (i : Int)).getD 0 ∧ (s.counts (i : Int)).getD 0 ≤ n := by
    cases hh : s.counts (i : Int) with
    | none => simp
    | some v => exact h.cnt _ v hh
  unfold relM
  split
  · refine ⟨⟨h.act, by have := h.alen; simp; omega, by have := h.olen; simp; omega, h.llen, fun j v hv => ?_, h.now, fun j hj => ?_, h.fitl⟩, rfl⟩
    · have := h.cnt j v hv; omega
    · have := h.fit j hj; omega
  · rename_i hb
    have hd : s.l[i]? = some (s.l[i]) := List.getElem?_eq_getElem hi
    have hf := h.fitl _ (List.getElem_mem hi)
    refine ⟨⟨putM_lt h.act (by omega), by have := h.alen; simp; omega, by have := h.olen; simp; omega, h.llen, fun j v hv => ?_, fun j hj => ?_, fun j hj => ?_, h.fitl⟩, rfl⟩
    · dsimp only [upd] at hv
      split at hv
      · cases hv; omega
      · have := h.cnt j v hv; omega
    · rw [putM_bit] at hj
      by_cases hij : i = j
      · subst hij
        exact ⟨hi, s.all.length, by simp [upd], by simp⟩
      · simp [hij] at hj
        obtain ⟨h2, k, h3, h4⟩ := h.now j hj
        refine ⟨h2, k, ?_, by simp; omega⟩
        dsimp only [upd]
        rw [if_neg (by omega)]; exact h3
    · rcases List.mem_append.1 hj with hj | hj
      · have := h.fit j hj; omega
      · obtain rfl := List.mem_singleton.1 hj
        rw [hd]
        simp only [Option.map_some, Option.getD_some]
        omega
theorem infoJob : (Tryd.prog.info? 60).map (fun i => (i.zero, i.size, i.bytes)) = some (some (.agg #[.int .i64 0, .int .i64 0, .int .i64 0, .int .i64 0, .int .i64 0, .int .i64 0, .int .i64 0, .bool false]), 8, 64) := by kernel_rfl
def RelPost (w : World) (B db n : Nat) (s : Led) (q : LedQ) (i : Nat) (t : Int) (e : Ending) (w' : World) : Prop :=
  e = .returned (.tuple #[.int .i64 (relM s i t).2.1, .bool (relM s i t).2.2]) ∧ (∃ q', LedAt w' B db (n + 1) (relM s i t).1 q' ∧ ∀ y ∈ q'.bs db, y ∈ q.bs db ∨ w.heap.size ≤ y) ∧ Chg (q.bs db) w w'
set_option maxHeartbeats 4000000 in
theorem Release_over (B db n : Nat) (s : Led) (q : LedQ) (i : Nat) (t : Int) (w : World) (h : LedAt w B db n s q) (hk : LedOK s n) (hi : i < s.l.length) (h0 : 0 ≤ t) (h1 : t ≤ 4096) (hn : n < 20000) (hB : B ≤ w.heap.size) (hb : s.act.testBit i = true) :
    Calls Tryd.prog 43 #[.pointer (some ⟨db, 0, none⟩), .int .i64 (i : Int), .int .i64 t] w (RelPost w B db n s q i t) := by
  have hM : Hid (relM s i t = ({ s with overs := s.overs ++ [⟨t, i⟩] }, 0, false)) := Lib.hid (by unfold relM; rw [if_pos hb])
  have hll := hk.llen
  have HT := Lib.hid (fun V => time_any t h0 h1 V)
  have HH := Lib.hid (has_any B db n s q i w h hk (by omega))
  rw [hb] at HH
  have HS := Lib.hid (⟨h, hk⟩ : _ ∧ _)
  have HBB := Lib.hid hB
  have HNN := Lib.hid hn
  have b0 : w.cell? ⟨db, 0, none⟩ = some (.slice q.la s.l.length q.lc) := h.box.cell rfl
  have b5 : w.cell? ⟨db, 5, none⟩ = some (.slice q.oa s.overs.length q.oc) := h.box.cell rfl
  have m0 : ¬ (i : Int) < 0 := by omega
  have m1 : ¬ (s.l.length : Int) ≤ (i : Int) := by omega
  obtain ⟨i0, hi0, hz0, hz1, hz2⟩ := info_parts infoDue
  have hb1 : s.overs.length + 1 ≤ maxLen := by have := hk.olen; unfold maxLen; omega
  have hb2 : (s.overs.length + 1) * 16 ≤ 140737488355328 := by have := hk.olen; omega
  have hOA : OwnD (w.alloc (.cells #[.int .i64 t, .int .i64 (i : Int)] 35)) B (.slice q.oa s.overs.length q.oc) s.overs := own_keep h.ro ((Chg.refl [] _).alloc _) (by simp)
  have hcc := two_cells w (.int .i64 t) (.int .i64 (i : Int)) 35
  have hb3 : B ≤ (w.alloc (.cells #[.int .i64 t, .int .i64 (i : Int)] 35)).heap.size := by rw [World.size_alloc]; omega
  have HLT := Lib.hid h.lt
  clear h hk hi hll hB hn hb h0 h1
  go_enter Tryd.func43, Tryd.ntmps43
  go_wp2_with (first
    | (go_at_call 40; refine (HT.out _).mono ?_; rintro e w' ⟨rfl, rfl⟩)
    | (go_at_call 31; refine HH.out.mono ?_; rintro e w' ⟨rfl, rfl⟩)
    | (at_builtin; refine wpList_append_own_at _ rfl (.tmp 33) (.tmp 37) 23 rfl B 35 i0 (.agg #[.int .i64 0, .int .i64 0]) 2 16 Tryd.underlying23 hi0 hz0 hz1 hz2 rfl (by decide) (.slice q.oa s.overs.length q.oc) s.overs.length (s.overs.flatMap Du.cells) rfl hOA ⟨w.heap.size, 0, none⟩ 1 1 [.int .i64 t, .int .i64 (i : Int)] rfl rfl hcc (by simp [Value.oneCell']) hb1 hb2 hb3 ?_; intro v' w' hown' hgrow hnil hblk; obtain ⟨oa', oc', rfl⟩ := own_open hown'; have HKA := Lib.hid (((Chg.refl (Value.slice q.oa s.overs.length q.oc).ownBlock.toList w).alloc (.cells #[.int .i64 t, .int .i64 (i : Int)] 35)).grown hgrow (fun k hk => .inl (Option.mem_toList.2 hk))); have HON := Lib.hid hown'; have HBK := Lib.hid hblk; have hbx := HS.out.1.box.keep HKA.out (fun hm => own_type HS.out.1.ro HS.out.1.box (by decide) _ (Option.mem_toList.1 hm) rfl); have c5 : w'.cell? ⟨db, 5, none⟩ = some (.slice q.oa s.overs.length q.oc) := hbx.cell rfl; have f5 := hbx.free 5; clear hown' hgrow hnil hblk hbx))
  refine bodyPost_ret (results_tmp2 rfl _ _ _) rfl ?_
  have hsnoc := OwnD.snoc HON.out
  have hlen : (s.overs ++ [Du.mk t (i : Int)]).length = s.overs.length + 1 := by simp
  rw [← hlen] at hsnoc
  have hg := HS.out.1.growOvers (by rw [← own_slice _ s.overs.length q.oc]; exact HKA.out) ⟨t, i⟩ oa' oc' hsnoc
  rw [hlen] at hg
  have hnb : ∀ y, (oa'.map (·.block)) = some y → q.oa.map (·.block) = some y ∨ w.heap.size ≤ y := fun y hy => by
    rw [own_slice, own_slice] at HBK
    rcases HBK.out with h | h
    · exact .inl (by rw [← h]; exact hy)
    · rw [h] at hy
      simp at hy
      exact .inr (by omega)
  refine ⟨by rw [hM.out]; rfl, ⟨{ q with oa := oa', oc := oc' }, by rw [hM.out]; exact hg.mono (by omega), fun y hy => ?_⟩, ?_⟩
  · rcases LedQ.mem hy with rfl | rfl | rfl | h1 | h1 | h1
    · exact .inl (by simp [LedQ.bs])
    · exact .inl (by simp [LedQ.bs])
    · exact .inl (by simp [LedQ.bs])
    · exact .inl (by simp only at h1; simp [LedQ.bs, h1])
    · exact .inl (by simp only at h1; simp [LedQ.bs, h1])
    · rcases hnb y h1 with h2 | h2
      · exact .inl (by simp [LedQ.bs, h2])
      · exact .inr h2
  · refine (HKA.out.mono (fun y hy => ?_)).setCell (.inl (by simp [LedQ.bs])) _
    rw [own_slice] at hy
    simp only [LedQ.bs, List.mem_cons, List.mem_append]
    exact .inr (.inr (.inr (.inr hy)))
end Go.Proofs.YtfkokbeloenfdaaDoor.krn
