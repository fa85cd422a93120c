/- The kernel: agenda.Pop. -/
import Derived.Test.YtfkokbeloenfdaaDoorKrnD
namespace Go.Proofs.YtfkokbeloenfdaaDoor.krn
open Go Go.RowKit Go.Proofs.YtfkokbeloenfdaaDoor.kit
set_option linter.unusedVariables false
set_option linter.unusedSimpArgs false
set_option maxRecDepth 20000
def cutM (ds : List Du) : List Du := (ds.set 0 (ds.getD (ds.length - 1) d0)).take (ds.length - 1)
def popM (ds : List Du) : List Du := downM (cutM ds) 0
theorem cutM_len (ds : List Du) : (cutM ds).length = ds.length - 1 := by unfold cutM; simp
theorem popM_len (ds : List Du) : (popM ds).length = ds.length - 1 := by unfold popM; rw [downM_len _ _ _ (Nat.le_refl _), cutM_len]
theorem slice_to {t e : Nat} (ht : Tryd.prog.underlying t = some (.slice e)) (he : ∃ s, (Tryd.prog.info? e).map (·.size) = some s) (g n c m : Nat) (hm : m ≤ n) (hc : n ≤ c) (u : World) :
    (Instr.slice t (.slice (some ⟨g, 0, none⟩) n c) none (some (.int .i64 (m : Int))) none).run Tryd.prog u = .ok (.slice (some ⟨g, 0, none⟩) m c) u := by
  obtain ⟨s, he⟩ := he
  have hel : Tryd.prog.elem t = e := by simp [Program.elem, ht]
  rw [run_slice_h (P := Tryd.prog) (w := u) t (some ⟨g, 0, none⟩) n c (by rw [hel]; exact ht) .i64 m (by omega) (by omega), hel, sizeOf_run he]
  simp [Result.andThen, sliced, Go.Proofs.YtfkokbeloenfdaaDoor.kit.add_plain]
set_option maxHeartbeats 4000000 in
theorem Pop_any (B db g c : Nat) (room : Int) (d : Du) (r : List Du) (w : World) (h : AgAt w B db room (some ⟨g, 0, none⟩) c (d :: r)) (hl : (d :: r).length ≤ 4096) :
    Calls Tryd.prog 54 #[.pointer (some ⟨db, 0, none⟩)] w fun e w' => e = .returned (.tuple #[d.val, .bool true]) ∧ AgAt w' B db room (some ⟨g, 0, none⟩) c (popM (d :: r)) ∧ Chg [db, g] w w' := by
  obtain ⟨W1, hW1⟩ : ∃ W1, w.alloc (.cells #[.int .i64 0, .int .i64 0] 35) = W1 := ⟨_, rfl⟩
  have HC1 : Hid (Chg [] w W1) := Lib.hid (by rw [← hW1]; exact (Chg.refl [] w).alloc _)
  have HBX : Hid (Blk W1 w.heap.size #[.int .i64 0, .int .i64 0] 35) := Lib.hid (by rw [← hW1]; exact Blk.new w _ _)
  have HPK := Lib.hid (Peek_any B db room (some ⟨g, 0, none⟩) c (d :: r) W1 (h.fresh HC1.out))
  have HNE := Lib.hid (h.ne g rfl)
  have HLT : Hid (g < w.heap.size ∧ db < w.heap.size) := Lib.hid ⟨(World.ownsRow.lt h.2 g rfl).2, h.1.lt⟩
  have HCAP : Hid ((d :: r).length ≤ c) := Lib.hid (by obtain ⟨a', c', hv, hle⟩ := reads_slice (Reads.of_own h.2 (by decide)); simp only [Value.slice.injEq] at hv; omega)
  have HA := Lib.hid h
  have HL := Lib.hid hl
  obtain ⟨ds, hds⟩ : ∃ ds, d :: r = ds := ⟨_, rfl⟩
  have HHD : Hid (ds.getD 0 d0 = d ∧ 0 < ds.length) := Lib.hid (by rw [← hds]; exact ⟨rfl, by simp⟩)
  have HPV : Hid (peekV ds = .tuple #[d.val, .bool true]) := Lib.hid (by rw [← hds]; rfl)
  rw [hds] at HPK HA HL HCAP
  rw [hds]
  rw [HPV.out] at HPK
  obtain ⟨at_, tk⟩ := d
  dsimp only [Du.val] at HPK
  clear h hl hds HPV
  obtain ⟨m, hm⟩ : ∃ m, ds.length - 1 = m := ⟨_, rfl⟩
  have HM : Hid (ds.length = m + 1 ∧ m ≤ 4095) := Lib.hid (by have := HHD.out.2; have := HL.out; omega)
  have k1 : IntKind.i64.wrap ((ds.length : Int) - 1) = (m : Int) := by rw [IntKind.wrap_i64]; have := HM.out; omega
  have HIX := Lib.hid (fun j (hj : j < ds.length) => index_at (t := 23) Tryd.underlying23 szDue g ds.length c j hj)
  have x0 := HIX.out 0 HHD.out.2
  simp only [Nat.zero_mul, Int.natCast_zero] at x0
  have xm := HIX.out m (by have := HM.out; omega)
  have hsl := slice_to (t := 23) Tryd.underlying23 ⟨_, szDue⟩ g ds.length c m (by have := HM.out; omega) HCAP.out
  obtain ⟨⟨am, tm⟩, hdm⟩ : ∃ e, ds.getD m d0 = e := ⟨_, rfl⟩
  have HGM := Lib.hid hdm
  have HCUT : Hid (cutM ds = (ds.set 0 ⟨am, tm⟩).take m) := Lib.hid (by unfold cutM; rw [hm, hdm])
  clear hdm hm
  have BB : Hid (∀ V, Chg [] w V → V.cell? ⟨db, 1, none⟩ = some (.slice (some ⟨g, 0, none⟩) ds.length c)) := Lib.hid (fun V hV => ((HA.out.fresh hV).1).cell rfl)
  go_enter Tryd.func54, Tryd.ntmps54
  go_upto_region 5 with (go_at_call 53; refine HPK.out.mono ?_; rintro e w2 ⟨rfl, hc2⟩; have HC2 := Lib.hid (HC1.out.trans hc2); have HBX2 := Lib.hid (HBX.out.keep hc2 (by simp)); clear hc2; have b4 : (w2.alloc (.cells #[.int .i64 at_, .int .i64 tk] 35)).cell? ⟨db, 1, none⟩ = some (.slice (some ⟨g, 0, none⟩) ds.length c) := BB.out _ (HC2.out.alloc _))
  obtain ⟨W3, hW3⟩ : ∃ W3, w2.alloc (.cells #[.int .i64 at_, .int .i64 tk] 35) = W3 := ⟨_, rfl⟩
  have HC3 : Hid (Chg [] w W3) := Lib.hid (by rw [← hW3]; exact HC2.out.alloc _)
  have HBX3 : Hid (Blk W3 w.heap.size #[.int .i64 0, .int .i64 0] 35) := Lib.hid (by rw [← hW3]; exact HBX2.out.alloc _)
  have HBD3 : Hid (Blk W3 w2.heap.size #[.int .i64 at_, .int .i64 tk] 35) := Lib.hid (by rw [← hW3]; exact Blk.new _ _ _)
  have HW2S : Hid (w.heap.size < w2.heap.size) := Lib.hid HBX2.out.lt
  rw [hW3]
  clear hW3 b4 hW1
  have FA : Hid (∀ V, Chg [] W3 V → V.cell? ⟨db, 1, none⟩ = some (.slice (some ⟨g, 0, none⟩) ds.length c) ∧ V.cell? ⟨g, m * 2, none⟩ = some (.int .i64 am) ∧ V.cell? ⟨g, m * 2 + 1, none⟩ = some (.int .i64 tm)) :=
    Lib.hid (fun V hV => (by
      have h1 := (HA.out.fresh (HC3.out.trans hV))
      have h2 := h1.2.at m (by have := HM.out; omega)
      rw [HGM.out] at h2
      exact ⟨h1.1.cell rfl, h2.1.1, h2.1.2⟩))
  have hHeld : (fun V : World => Hid (Chg [] W3 V)) (World.drew W3) := Lib.hid (Chg.refl _ _).drew
  refine wp_region_planT (fun V : World => Hid (Chg [] W3 V)) 12 [(0, true, some 21), (1, true, some 22), (2, true, some 23), (3, true, some 24), (4, true, some 25), (5, true, some 26), (6, true, some 27), (7, true, some 28), (8, true, some 29), (9, true, some 30), (10, true, some 31), (11, true, some 32)] (by kernel_rfl) (by kernel_rfl) (by kernel_rfl) (by kernel_rfl) (by kernel_rfl) (fun d c a v w h => by cases d <;> exact h) hHeld ?_
  repeat (first
    | (refine planT_read (v := ?_) rfl rfl ?_ ?_ ?_; rotate_left; (focus rfl); (focus (intro u hSw; (try dsimp only at hSw); obtain ⟨h1, h2, h3⟩ := FA.out u hSw.out; go_simp; (try with_reducible rfl))); (try simp only [Act.put, List.setIfInBounds_toArray, List.set_cons_zero, List.set_cons_succ])))
  refine planT_last rfl rfl (fun K hK => ?_)
  have HAD := Lib.hid (HA.out.fresh HC3.out)
  have h0 := HAD.out.2.at 0 HHD.out.2
  have q0 := h0.1.1
  have q1 := h0.1.2
  have f0 := h0.2.1
  have f1 := h0.2.2
  simp only [Nat.zero_mul, Nat.zero_add] at q0 q1 f0 f1
  clear h0 hHeld
  go_wp2
  refine hK.out _ _ ?_
  clear hK K q0 q1 f0 f1
  obtain ⟨W4, hW4⟩ : ∃ W4, ((W3.setCell ⟨g, 0, none⟩ (.int .i64 am)).setCell ⟨g, 1, none⟩ (.int .i64 tm)).drew = W4 := ⟨_, rfl⟩
  have HC4 : Hid (Chg [db, g] w W4) := Lib.hid (by rw [← hW4]; exact ((((HC3.out.mono (by simp)).setCell (.inl (by simp)) _).setCell (.inl (by simp)) _).drew))
  have HO4 : Hid (OwnD W4 B (.slice (some ⟨g, 0, none⟩) (ds.set 0 ⟨am, tm⟩).length c) (ds.set 0 ⟨am, tm⟩)) := Lib.hid (by
    have h1 := HAD.out.2.put 0 ⟨am, tm⟩
    simp only [Nat.zero_mul, Nat.zero_add] at h1
    rw [← hW4]
    exact h1)
  have HB4 : Hid (agB W4 db room (.slice (some ⟨g, 0, none⟩) ds.length c)) := Lib.hid (by rw [← hW4]; exact ((HAD.out.1.set_ne (fun he => HNE.out he.symm) _ _ _).set_ne (fun he => HNE.out he.symm) _ _ _).drew)
  have HX4 : Hid (Blk W4 w.heap.size #[.int .i64 0, .int .i64 0] 35) := Lib.hid (by rw [← hW4]; exact ((HBX3.out.set_ne (b' := g) (by have := HLT.out; omega) _ _ _).set_ne (b' := g) (by have := HLT.out; omega) _ _ _).drew)
  have HD4 : Hid (Blk W4 w2.heap.size #[.int .i64 at_, .int .i64 tk] 35) := Lib.hid (by rw [← hW4]; exact ((HBD3.out.set_ne (b' := g) (by have := HLT.out; have := HW2S.out; omega) _ _ _).set_ne (b' := g) (by have := HLT.out; have := HW2S.out; omega) _ _ _).drew)
  rw [hW4]
  clear hW4 FA BB
  have b4 : W4.cell? ⟨db, 1, none⟩ = some (.slice (some ⟨g, 0, none⟩) ds.length c) := HB4.out.cell rfl
  have f4 := HB4.out.free 1
  obtain ⟨W5, hW5⟩ : ∃ W5, W4.setCell ⟨db, 1, none⟩ (.slice (some ⟨g, 0, none⟩) m c) = W5 := ⟨_, rfl⟩
  have HLC : Hid ((cutM ds).length = m) := Lib.hid (by rw [cutM_len]; have := HM.out; omega)
  have HB5 : Hid (agB W5 db room (.slice (some ⟨g, 0, none⟩) (cutM ds).length c)) := Lib.hid (by rw [← hW5, HLC.out]; exact HB4.out.set 1 _)
  have HO5 : Hid (OwnD W5 B (.slice (some ⟨g, 0, none⟩) (cutM ds).length c) (cutM ds)) := Lib.hid (by
    have h1 := HO4.out.shrink m (by rw [List.length_set]; have := HM.out; omega)
    rw [← HCUT.out] at h1
    rw [← hW5]
    exact own_keep h1 ((Chg.refl [db] W4).setCell (p := ⟨db, 1, none⟩) (.inl (by simp)) _) (fun y hy hm => by
      simp only [Value.ownBlock, Option.map_some, Option.some.injEq] at hy
      subst hy
      exact HNE.out (List.mem_singleton.1 hm)))
  have HC5 : Hid (Chg [db, g] w W5) := Lib.hid (by rw [← hW5]; exact HC4.out.setCell (.inl (by simp)) _)
  have HX5 : Hid (Blk W5 w.heap.size #[.int .i64 0, .int .i64 0] 35) := Lib.hid (by rw [← hW5]; exact HX4.out.set_ne (b' := db) (by have := HLT.out; omega) _ _ _)
  have HD5 : Hid (Blk W5 w2.heap.size #[.int .i64 at_, .int .i64 tk] 35) := Lib.hid (by rw [← hW5]; exact HD4.out.set_ne (b' := db) (by have := HLT.out; have := HW2S.out; omega) _ _ _)
  have HDN := Lib.hid (down_any B db g c room (cutM ds) 0 W5 HB5.out HO5.out (by omega) (fun he => HNE.out he.symm) (by rw [HLC.out]; have := HM.out; omega))
  go_wp2_with (first | (go_at_call 63; refine HDN.out.mono ?_; rintro e w6 ⟨⟨v, rfl⟩, ho6, hc6⟩; have HC6 := Lib.hid (HC5.out.into hc6 (by simp)); have HB6 := Lib.hid (HB5.out.keep hc6 (fun hm => HNE.out (List.mem_singleton.1 hm).symm)); have HX6 := Lib.hid (HX5.out.keep hc6 (fun hm => by have := HLT.out; have := List.mem_singleton.1 hm; omega)); have HD6 := Lib.hid (HD5.out.keep hc6 (fun hm => by have := HLT.out; have := HW2S.out; have := List.mem_singleton.1 hm; omega)); have HO6 := Lib.hid ho6; clear ho6 hc6; have y0 : w6.cell? ⟨w2.heap.size, 0, none⟩ = some (.int .i64 at_) := HD6.out.cell rfl; have y1 : w6.cell? ⟨w2.heap.size, 1, none⟩ = some (.int .i64 tk) := HD6.out.cell rfl) | (refine Go.Proofs.YtfkokbeloenfdaaDoor.blk.wpList_store_blk rfl 35 (.tmp 2) (.tmp 44) rfl w.heap.size #[.int .i64 at_, .int .i64 tk] rfl rfl HX6.out szDue rfl (by simp [Value.oneCell']) ?_; intro w9 hb9 hc9; have HB9 := Lib.hid hb9; have HC9 := Lib.hid hc9; clear hb9 hc9))
  refine bodyPost_ret (results_row_tmp rfl _ _ w.heap.size 35 #[.int .i64 at_, .int .i64 tk] (0, 0) _ rfl HB9.out Tryd.underlying35 rfl szDue) rfl ?_
  refine ⟨rfl, ⟨?_, ?_⟩, HC6.out.into HC9.out (by simp)⟩
  · have h9 := HB6.out.keep HC9.out (by have := HLT.out; simp; omega)
    rw [HLC.out] at h9
    rw [popM_len, show ds.length - 1 = m by have := HM.out; omega]
    exact h9
  · have h9 := own_keep HO6.out HC9.out (fun y hy hm => by
      simp only [Value.ownBlock, Option.map_some, Option.some.injEq] at hy
      have := HLT.out; have := List.mem_singleton.1 hm; omega)
    unfold OwnD
    unfold popM
    rw [downM_len _ _ _ (Nat.le_refl _)] at h9 ⊢
    exact h9
end Go.Proofs.YtfkokbeloenfdaaDoor.krn
