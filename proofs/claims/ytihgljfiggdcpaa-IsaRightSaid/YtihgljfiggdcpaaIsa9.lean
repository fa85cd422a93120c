/- Package isa's reference: Of, Decode; plain.Code. -/
import Derived.Test.YtihgljfiggdcpaaIsa8
namespace Go.Proofs.Ytihgljfiggdcpaa.isa
open Go Go.RowKit Go.Proofs.Ytihgljfiggdcpaa.kit Go.Proofs.Ytihgljfiggdcpaa.codec
set_option linter.unusedVariables false
set_option maxRecDepth 20000

theorem szB : (Try.prog.info? 5).map (·.size) = some 1 := by kernel_rfl
theorem eight {zs : List Int} (h : 8 ≤ zs.length) : ∃ z0 z1 z2 z3 z4 z5 z6 z7 r, zs = z0 :: z1 :: z2 :: z3 :: z4 :: z5 :: z6 :: z7 :: r := by
  match zs, h with
  | z0 :: z1 :: z2 :: z3 :: z4 :: z5 :: z6 :: z7 :: r, _ => exact ⟨z0, z1, z2, z3, z4, z5, z6, z7, r, rfl⟩
theorem insAt_drop (zs : List Int) (k : Nat) : insAt (zs.drop (8 * k)) 0 = insAt zs k := by
  simp [insAt, List.drop_drop]
theorem insAt_eight (z0 z1 z2 z3 z4 z5 z6 z7 : Int) (r : List Int) : insAt (z0 :: z1 :: z2 :: z3 :: z4 :: z5 :: z6 :: z7 :: r) 0 = ⟨z0, z1, z2, z3, z4 + 256 * z5 + 65536 * z6 + 16777216 * z7⟩ := by
  simp [insAt, numL]; omega

theorem wrap_i64_id {z : Int} (h : 0 ≤ z ∧ z ≤ 255) : IntKind.i64.wrap z = z := by
  rw [IntKind.wrap_i64]; omega
theorem wrap_u32_id {z : Int} (h : 0 ≤ z ∧ z ≤ 4294967295) : IntKind.u32.wrap z = z := by
  rw [IntKind.wrap_u32']; omega
set_option maxRecDepth 100000 in
set_option maxHeartbeats 2000000 in
theorem Of_any (v : Value) (zs : List Int) (w : World) (hr : ReadsB w v zs) (h8 : 8 ≤ zs.length) (hz : zs.length ≤ 8000) :
    Calls Try.prog 53 #[v] w fun e w' => e = .returned (.agg (insAt zs 0).cells.toArray) ∧ Chg [] w w' := by
  obtain ⟨bb, off, hix, hcell, _⟩ := reads_index (P := Try.prog) Try.underlying51 szB hr.1
  obtain ⟨a1, cap1, rfl, hcap⟩ := reads_slice hr.1
  obtain ⟨z0, z1, z2, z3, z4, z5, z6, z7, r, rfl⟩ := eight h8
  rw [insAt_eight]
  have hw := hr.2
  have b0 := wf_u8 (hw z0 (by simp)); have b1 := wf_u8 (hw z1 (by simp)); have b2 := wf_u8 (hw z2 (by simp)); have b3 := wf_u8 (hw z3 (by simp))
  have b4 := wf_u8 (hw z4 (by simp)); have b5 := wf_u8 (hw z5 (by simp)); have b6 := wf_u8 (hw z6 (by simp)); have b7 := wf_u8 (hw z7 (by simp))
  clear hw hr h8 hcap
  generalize hL : (z0 :: z1 :: z2 :: z3 :: z4 :: z5 :: z6 :: z7 :: r).length = L at *
  have hL8 : 8 ≤ L := by rw [← hL]; simp
  have x0 : ∀ u, (Instr.indexAt 51 (.slice a1 L cap1) (.int .i64 0)).run Try.prog u = .ok (.pointer (some ⟨bb, off, none⟩)) u := hix 0 (by omega)
  have x1 : ∀ u, (Instr.indexAt 51 (.slice a1 L cap1) (.int .i64 1)).run Try.prog u = .ok (.pointer (some ⟨bb, off + 1, none⟩)) u := hix 1 (by omega)
  have x2 : ∀ u, (Instr.indexAt 51 (.slice a1 L cap1) (.int .i64 2)).run Try.prog u = .ok (.pointer (some ⟨bb, off + 2, none⟩)) u := hix 2 (by omega)
  have x3 : ∀ u, (Instr.indexAt 51 (.slice a1 L cap1) (.int .i64 3)).run Try.prog u = .ok (.pointer (some ⟨bb, off + 3, none⟩)) u := hix 3 (by omega)
  have x4 : ∀ u, (Instr.indexAt 51 (.slice a1 L cap1) (.int .i64 4)).run Try.prog u = .ok (.pointer (some ⟨bb, off + 4, none⟩)) u := hix 4 (by omega)
  have x5 : ∀ u, (Instr.indexAt 51 (.slice a1 L cap1) (.int .i64 5)).run Try.prog u = .ok (.pointer (some ⟨bb, off + 5, none⟩)) u := hix 5 (by omega)
  have x6 : ∀ u, (Instr.indexAt 51 (.slice a1 L cap1) (.int .i64 6)).run Try.prog u = .ok (.pointer (some ⟨bb, off + 6, none⟩)) u := hix 6 (by omega)
  have x7 : ∀ u, (Instr.indexAt 51 (.slice a1 L cap1) (.int .i64 7)).run Try.prog u = .ok (.pointer (some ⟨bb, off + 7, none⟩)) u := hix 7 (by omega)
  have c0 : w.cell? ⟨bb, off, none⟩ = some (.int .u8 z0) := hcell 0 _ rfl
  have c1 : w.cell? ⟨bb, off + 1, none⟩ = some (.int .u8 z1) := hcell 1 _ rfl
  have c2 : w.cell? ⟨bb, off + 2, none⟩ = some (.int .u8 z2) := hcell 2 _ rfl
  have c3 : w.cell? ⟨bb, off + 3, none⟩ = some (.int .u8 z3) := hcell 3 _ rfl
  have c4 : w.cell? ⟨bb, off + 4, none⟩ = some (.int .u8 z4) := hcell 4 _ rfl
  have c5 : w.cell? ⟨bb, off + 5, none⟩ = some (.int .u8 z5) := hcell 5 _ rfl
  have c6 : w.cell? ⟨bb, off + 6, none⟩ = some (.int .u8 z6) := hcell 6 _ rfl
  have c7 : w.cell? ⟨bb, off + 7, none⟩ = some (.int .u8 z7) := hcell 7 _ rfl
  clear hix hcell hL hL8 hz
  go_enter Try.func53, Try.ntmps53
  go_wp2_with fail
  have CC := Lib.hid (And.intro c0 (And.intro c1 (And.intro c2 (And.intro c3 (And.intro c4 (And.intro c5 (And.intro c6 c7)))))))
  clear c0 c1 c2 c3 c4 c5 c6 c7
  refine wp_region_tail 39 (by kernel_rfl) (by kernel_rfl) ?_
  intro W hW
  have hw : Chg [] w W := by rw [hW.out]; exact ((Chg.refl _ _).alloc _).drew
  have hbk : Blk W w.heap.size #[.int .i64 0, .int .i64 0, .int .i64 0, .int .i64 0, .int .u32 0] 60 := by rw [hW.out]; exact (Blk.new w _ _).drew
  obtain ⟨c0, c1, c2, c3, c4, c5, c6, c7⟩ := CC.out
  have d0 := hw.keep c0 (by simp); have d1 := hw.keep c1 (by simp); have d2 := hw.keep c2 (by simp); have d3 := hw.keep c3 (by simp)
  have d4 := hw.keep c4 (by simp); have d5 := hw.keep c5 (by simp); have d6 := hw.keep c6 (by simp); have d7 := hw.keep c7 (by simp)
  clear c0 c1 c2 c3 c4 c5 c6 c7 CC
  have HB := Lib.hid hbk
  have HW := Lib.hid hw
  clear hbk hw
  simp only [List.take_succ_cons, List.take_zero, List.drop_succ_cons, List.drop_zero]
  repeat still_step
  refine wpStill_nil ?_
  simp only [wrap_i64_id b0, wrap_i64_id b1, wrap_i64_id b2, wrap_i64_id b3, wrap_u32_id (show 0 ≤ z4 ∧ z4 ≤ 4294967295 by omega), wrap_u32_id (show 0 ≤ z5 ∧ z5 ≤ 4294967295 by omega), wrap_u32_id (show 0 ≤ z6 ∧ z6 ≤ 4294967295 by omega), wrap_u32_id (show 0 ≤ z7 ∧ z7 ≤ 4294967295 by omega),
    wrap_u32_id (show 0 ≤ 256 * z5 ∧ 256 * z5 ≤ 4294967295 by omega), wrap_u32_id (show 0 ≤ 65536 * z6 ∧ 65536 * z6 ≤ 4294967295 by omega), wrap_u32_id (show 0 ≤ 16777216 * z7 ∧ 16777216 * z7 ≤ 4294967295 by omega),
    wrap_u32_id (show 0 ≤ z4 + 256 * z5 ∧ z4 + 256 * z5 ≤ 4294967295 by omega), wrap_u32_id (show 0 ≤ z4 + 256 * z5 + 65536 * z6 ∧ z4 + 256 * z5 + 65536 * z6 ≤ 4294967295 by omega), wrap_u32_id (show 0 ≤ z4 + 256 * z5 + 65536 * z6 + 16777216 * z7 ∧ z4 + 256 * z5 + 65536 * z6 + 16777216 * z7 ≤ 4294967295 by omega)]
  generalize hnn : z4 + 256 * z5 + 65536 * z6 + 16777216 * z7 = n
  have HNN := Lib.hid hnn
  clear hnn
  refine wpList_store_row rfl 60 (.tmp 2) (.tmp 41) rfl w.heap.size #[.int .i64 z0, .int .i64 z1, .int .i64 z2, .int .i64 z3, .int .u32 n] rfl rfl 60 _ HB.out (by kernel_rfl) (by kernel_rfl) (by simp [Value.oneCell']) ?_
  go_wp2_with fail
  have hw2 : Chg [w.heap.size] W (W.setRow w.heap.size #[.int .i64 z0, .int .i64 z1, .int .i64 z2, .int .i64 z3, .int .u32 n]) := ⟨rfl, rfl, rfl, by simp [World.setRow], fun k hk hn => setRow_other W w.heap.size k _ (by simpa using hn)⟩
  refine bodyPost_ret (v := .agg #[.int .i64 z0, .int .i64 z1, .int .i64 z2, .int .i64 z3, .int .u32 n]) (results_cell_row rfl _ _ w.heap.size 60 _ (0, 0) _ rfl (setRow_heap W w.heap.size _ _ _ _ HB.out) Try.underlying60 rfl (by kernel_rfl)) rfl ⟨by rw [HNN.out]; rfl, HW.out.into hw2 (fun x hx => .inr (by simp at hx; omega))⟩

set_option maxRecDepth 100000 in
set_option maxHeartbeats 2000000 in
theorem rDecode_any (v : Value) (zs : List Int) (w : World) (hr : ReadsB w v zs) (hz : zs.length ≤ 8000) :
    Calls Try.prog 27 #[v] w fun e w' => ∃ v' out at_ er, DecR zs out at_ er ∧ e = .returned (.tuple #[v', .int .i64 at_, .int .i64 er]) ∧ ReadsI w' v' out ∧ Chg [] w w' := by
  obtain ⟨i0, hi, hz0, hz1, hz2⟩ := info_parts infoI
  have HZ := Lib.hid hz
  have HWF := Lib.hid hr.2
  obtain ⟨a0, c0, hv0, _⟩ := reads_slice hr.1
  have HR := Lib.hid hr
  generalize hN : zs.length = N at *
  have HN := Lib.hid hN
  clear hz hN hr
  have HV0 := Lib.hid hv0
  clear hv0
  go_enter Try.func27, Try.ntmps27
  go_wp2_with fail
  go_loopw [0, 5] (fun b out wr => ∃ k m : Nat, Hid (m + 8 * k = N) ∧ Hid (ReadsB w b (zs.drop (8 * k))) ∧ Hid (OwnI wr w.heap.size out (insN zs k)) ∧ Hid (∀ j, j < k → rightI (insAt zs j) = true) ∧ Hid (Chg [] w wr) ∧ (∃ a c, b = .slice a m c) ∧ (∃ a c, out = .slice a k c)) (fun b _ _ => lenV b)
  case atStart => exact ⟨0, N, Lib.hid (by omega), HR, Lib.hid (World.ownsRow_nil _ _ _ _), Lib.hid (fun j hj => by omega), Lib.hid (Chg.refl _ _), ⟨a0, c0, HV0.out⟩, _, _, rfl⟩
  case round =>
    obtain ⟨k, m, HM, HB, HO, HA, HG, ⟨ab, cb, rfl⟩, a, c, rfl⟩ := hrel
    have hdl : (zs.drop (8 * k)).length = m := by rw [List.length_drop, HN.out]; have := HM.out; omega
    have HDL := Lib.hid hdl
    clear hdl
    have hk1000 : k ≤ 1000 := by have := HM.out; have := HZ.out; omega
    have hm8000 : m ≤ 8000 := by have := HM.out; have := HZ.out; omega
    by_cases hlt : 8 ≤ m
    · have hbr := HB.out.1
      rw [HDL.out] at hbr
      obtain ⟨vs, hrun, hrs, _⟩ := slice_low (P := Try.prog) Try.underlying51 szB hbr 8 hlt
      obtain ⟨asl, csl, hvs, _⟩ := reads_slice hrs
      subst hvs
      have hins : insAt zs k = insAt (zs.drop (8 * k)) 0 := (insAt_drop zs k).symm
      have hnw := insAt_wf zs HWF.out k
      rw [hins] at hnw
      have hof := Of_any (.slice ab m cb) (zs.drop (8 * k)) wr (HB.out.chg HG.out) (by rw [HDL.out]; exact hlt) (by rw [HDL.out]; exact hm8000)
      generalize insAt (zs.drop (8 * k)) 0 = ins at *
      obtain ⟨op, ia, ib, ic, inn⟩ := ins
      have HOF : Hid (Calls Try.prog 53 #[.slice ab m cb] wr fun e w' => e = .returned (.agg #[.int .i64 op, .int .i64 ia, .int .i64 ib, .int .i64 ic, .int .u32 inn]) ∧ Chg [] wr w') := Lib.hid hof
      have HINS := Lib.hid hins
      have HNW := Lib.hid hnw
      clear hins hnw hof hrs hbr hrun
      generalize hg : rightI ⟨op, ia, ib, ic, inn⟩ = g1
      have HG1 := Lib.hid hg
      clear hg
      cases g1
      · go_wp2_with (first | (go_at_call 53; refine HOF.out.mono ?_; rintro e w7 ⟨rfl, hc7⟩; have HC7 := Lib.hid hc7; clear hc7) | (go_at_call 33; refine (rRight_any op ia ib ic inn HNW.out _).mono ?_; rintro e w8 ⟨rfl, hc8⟩; rw [HG1.out]; have HC8 := Lib.hid hc8; clear hc8))
        go_ret3
        have hbz : 8 * k + 8 ≤ zs.length := by have := HM.out; have := HN.out; omega
        exact ⟨_, [], k, 4, ⟨k, by omega, HA.out, .inl ⟨hbz, by rw [HINS.out]; exact HG1.out, rfl, rfl, rfl⟩⟩, rfl, ReadsI.nil _, ((HG.out.trans HC7.out).alloc _).trans HC8.out⟩
      · go_wp2_with (first | (go_at_call 53; refine HOF.out.mono ?_; rintro e w7 ⟨rfl, hc7⟩; have HC7 := Lib.hid hc7; clear hc7) | (go_at_call 33; refine (rRight_any op ia ib ic inn HNW.out _).mono ?_; rintro e w8 ⟨rfl, hc8⟩; rw [HG1.out]; have hbx := (Blk.new w7 #[.int .i64 op, .int .i64 ia, .int .i64 ib, .int .i64 ic, .int .u32 inn] 60).keep hc8 (by simp); have f0 := hbx.cell (o := 0) (v := .int .i64 op) rfl; have f1 := hbx.cell (o := 1) (v := .int .i64 ia) rfl; have f2 := hbx.cell (o := 2) (v := .int .i64 ib) rfl; have f3 := hbx.cell (o := 3) (v := .int .i64 ic) rfl; have f4 := hbx.cell (o := 4) (v := .int .u32 inn) rfl; have hlt8 := hbx.lt; have HC8 := Lib.hid (((HG.out.trans HC7.out).alloc _).trans hc8); have HX8 := Lib.hid ((HC7.out.alloc _).trans hc8); clear hc8 hbx) | (at_builtin; refine wpList_append_any _ rfl _ _ 50 rfl w.heap.size 60 i0 _ 5 40 Try.underlying50 hi hz0 hz1 hz2 rfl (by decide) (.slice a k c) k _ rfl (by have h := own_chg HO.out HX8.out (by simp); have := World.ownsRow.alloc h (.cells #[.int .i64 op, .int .i64 ia, .int .i64 ib, .int .i64 ic, .int .u32 inn] 60); rw [insN_length] at this; exact this) _ 1 _ rfl (reads_row _ _ _ 5 1 (by decide) rfl (by decide)) (ins_oneCell [⟨op, ia, ib, ic, inn⟩]) (by unfold maxLen; omega) (by omega) (by have := HC8.out.size; simp; omega) ?_; intro v9 w9 hown9 hg9; have HX9 := Lib.hid ((HX8.out.mono (L' := (Value.slice a k c).ownBlock.toList) (by simp)).alloc (.cells #[.int .i64 op, .int .i64 ia, .int .i64 ib, .int .i64 ic, .int .u32 inn] 60) |>.grown hg9 (fun y hy => .inl (by rw [hy]; simp))); have hc9 := (HC8.out.alloc _).grown hg9 (fun y hy => .inr (World.ownsRow.lt HO.out y hy).1); have HC9 := Lib.hid hc9; have HO9 := Lib.hid hown9; clear hg9 hc9 hown9))
        obtain ⟨a9, c9, hv9, _⟩ := reads_slice (Reads.of_own HO9.out (by decide))
        subst hv9
        have hbr : Reads w 1 (.slice ab m cb) m ((zs.drop (8 * k)).map (Value.int .u8)) := by have h := HB.out.1; rw [HDL.out] at h; exact h
        have key : ∀ v, v = sliced ab 8 m cb 1 → ReadsB w v (zs.drop (8 * (k + 1))) := by
          rintro v rfl
          have hsl := (reads_sliced hbr 8 m hlt (Nat.le_refl _)).1
          refine ⟨?_, fun x hx => HWF.out x (List.mem_of_mem_drop hx)⟩
          have hl : (zs.drop (8 * (k + 1))).length = m - 8 := by rw [List.length_drop, HN.out]; have := HM.out; omega
          rw [← List.map_drop, List.drop_drop, show 8 * k + 8 * 1 = 8 * (k + 1) by omega, List.take_of_length_le (by rw [List.length_map, hl]; omega)] at hsl
          rw [hl]
          exact hsl
        go_roundw
        case rel =>
          refine ⟨k + 1, m - 8, Lib.hid (by have := HM.out; omega), Lib.hid (key _ (by cases ab <;> simp [sliced, Addr.add])), Lib.hid ?_, Lib.hid ?_, HC9, ⟨_, _, rfl⟩, _, _, rfl⟩
          · unfold OwnI
            rw [insN_length, insN_succ, HINS.out, List.flatMap_append]
            simpa [Ins.cells] using HO9.out
          · intro j hj
            by_cases hjk : j = k
            · subst hjk; rw [HINS.out]; exact HG1.out
            · exact HA.out j (by omega)
        case measure => simp [lenV]; omega
    · by_cases hm0 : m = 0
      · subst hm0
        go_wp2_with fail
        go_ret3
        have hN8 : zs.length = 8 * k := by have := HM.out; have := HN.out; omega
        refine ⟨_, insN zs k, 0, 0, ⟨k, by omega, HA.out, .inr (.inr ⟨hN8, rfl, rfl, rfl⟩)⟩, rfl, ⟨?_, insN_wf zs HWF.out k⟩, HG.out⟩
        rw [insN_length]; exact (Reads.of_own (by have := HO.out; unfold OwnI at this; rw [insN_length] at this; exact this) (by decide))
      · have hm1 : 0 < m := by omega
        have h8 : decide ((8 : Int) ≤ m) = false := by simp; omega
        have h9 : decide (0 < m) = true := by simp; omega
        go_wp2_with fail
        go_ret3
        exact ⟨_, [], k, 2, ⟨k, by have := HM.out; have := HN.out; omega, HA.out, .inr (.inl ⟨by have := HM.out; have := HN.out; omega, by have := HM.out; have := HN.out; omega, rfl, rfl, rfl⟩)⟩, rfl, ReadsI.nil _, HG.out⟩

theorem Ins.ext_cells {i j : Ins} (h : i.cells = j.cells) : i = j := by
  cases i; cases j; simp [Ins.cells] at h; simp [h]
set_option maxRecDepth 100000 in
set_option maxHeartbeats 2000000 in
theorem Code_any (v1 v2 : Value) (p q : List Ins) (w : World) (h1 : ReadsI w v1 p) (h2 : ReadsI w v2 q) (hp : p.length ≤ 2000) (hq : q.length ≤ 2000) :
    Calls Try.prog 29 #[v1, v2] w fun e w' => (∃ x : Bool, (x = true ↔ p = q) ∧ e = .returned (.bool x)) ∧ Quiet w w' := by
  obtain ⟨bb, off, hix, hcell, _⟩ := reads_index (P := Try.prog) Try.underlying50 szI h1.1
  obtain ⟨a1, cap1, rfl, _⟩ := reads_slice h1.1
  obtain ⟨bb2, off2, hix2, hcell2, _⟩ := reads_index (P := Try.prog) Try.underlying50 szI h2.1
  obtain ⟨a2, cap2, rfl, _⟩ := reads_slice h2.1
  have HX1 := Lib.hid hix
  have HC1 := Lib.hid hcell
  have HX2 := Lib.hid hix2
  have HC2 := Lib.hid hcell2
  clear hix hcell hix2 hcell2 h1 h2
  by_cases hlen : p.length = q.length
  · have HQ := Lib.hid hlen
    rw [← hlen]
    generalize hN : p.length = N at *
    have HN := Lib.hid hN
    clear hN hlen hq
    go_enter Try.func29, Try.ntmps29
    go_wp2_with fail
    go_loopw [5, 13] (fun _ i wr => ∃ k m : Nat, k ≤ N ∧ i = .int .i64 k ∧ Hid (p.take k = q.take k) ∧ wr = w.drewN m) (fun _ i _ => N - (intOf i).toNat)
    case atStart => exact ⟨0, 0, Nat.zero_le _, rfl, Lib.hid (by simp), rfl⟩
    case round =>
      obtain ⟨k, m, hk, rfl, HT, rfl⟩ := hrel
      by_cases hlt : k < N
      · have hlt1 : k < p.length := by rw [HN.out]; exact hlt
        have hlt2 : k < q.length := by rw [← HQ.out]; exact hlt
        have i1 := HX1.out k hlt
        have i2 := HX2.out k hlt2
        rw [← HQ.out] at i2
        obtain ⟨⟨o1, A1, B1, C1, N1⟩, hik⟩ : ∃ i, p[k]? = some i := ⟨_, List.getElem?_eq_getElem hlt1⟩
        obtain ⟨⟨o2, A2, B2, C2, N2⟩, hjk⟩ : ∃ i, q[k]? = some i := ⟨_, List.getElem?_eq_getElem hlt2⟩
        have dd1 : ∀ (j : Nat) (u : Value), j < 5 → (Ins.cells ⟨o1, A1, B1, C1, N1⟩)[j]? = some u → ∀ W, Hid (W = (w.drewN m).drew) → W.cell? ⟨bb, off + (k * 5 + j), none⟩ = some u := fun j u hj hu W h => by
          rw [h.out]; exact HC1.out (k * 5 + j) u (by rw [flatMap_get Ins.cells 5 (fun _ => rfl) p k j hj _ hik]; exact hu)
        have dd2 : ∀ (j : Nat) (u : Value), j < 5 → (Ins.cells ⟨o2, A2, B2, C2, N2⟩)[j]? = some u → ∀ W, Hid (W = (w.drewN m).drew) → W.cell? ⟨bb2, off2 + (k * 5 + j), none⟩ = some u := fun j u hj hu W h => by
          rw [h.out]; exact HC2.out (k * 5 + j) u (by rw [flatMap_get Ins.cells 5 (fun _ => rfl) q k j hj _ hjk]; exact hu)
        have D1 := Lib.hid dd1
        have D2 := Lib.hid dd2
        have HS1 := Lib.hid (show p.take (k + 1) = p.take k ++ [⟨o1, A1, B1, C1, N1⟩] by rw [List.take_add_one, hik]; rfl)
        have HS2 := Lib.hid (show q.take (k + 1) = q.take k ++ [⟨o2, A2, B2, C2, N2⟩] by rw [List.take_add_one, hjk]; rfl)
        have HI1 := Lib.hid hik
        have HI2 := Lib.hid hjk
        clear dd1 dd2 hik hjk hlt1 hlt2
        go_wp2_with fail
        refine wp_region_tail 8 (by kernel_rfl) (by kernel_rfl) ?_
        intro W hW
        have f0 := D1.out 0 _ (by decide) rfl W hW
        have f1 := D1.out 1 _ (by decide) rfl W hW
        have f2 := D1.out 2 _ (by decide) rfl W hW
        have f3 := D1.out 3 _ (by decide) rfl W hW
        have f4 := D1.out 4 _ (by decide) rfl W hW
        have g0 := D2.out 0 _ (by decide) rfl W hW
        have g1 := D2.out 1 _ (by decide) rfl W hW
        have g2 := D2.out 2 _ (by decide) rfl W hW
        have g3 := D2.out 3 _ (by decide) rfl W hW
        have g4 := D2.out 4 _ (by decide) rfl W hW
        rw [Nat.add_zero] at f0 g0
        rw [← Nat.add_assoc] at f1 f2 f3 f4 g1 g2 g3 g4
        simp only [List.take_succ_cons, List.take_zero, List.drop_succ_cons, List.drop_zero]
        repeat still_step
        refine wpStill_nil ?_
        by_cases hpq : o1 = o2 ∧ A1 = A2 ∧ B1 = B2 ∧ C1 = C2 ∧ N1 = N2
        · obtain ⟨rfl, rfl, rfl, rfl, rfl⟩ := hpq
          go_wp2
          go_roundw
          case rel => exact ⟨k + 1, m + 1, by omega, by go_num, Lib.hid (by rw [HS1.out, HS2.out, HT.out]), hW.out⟩
          case measure => simp [intOf]; omega
        · have hne : p ≠ q := by
            intro h
            have h1 := HI1.out
            rw [h, HI2.out] at h1
            simp at h1
            exact hpq ⟨h1.1.symm, h1.2.1.symm, h1.2.2.1.symm, h1.2.2.2.1.symm, h1.2.2.2.2.symm⟩
          have HNE := Lib.hid hne
          have HPQ := Lib.hid hpq
          clear hne hpq
          go_wp2
          all_goals first
            | (go_ret; exact ⟨.inl ⟨HNE.out, rfl⟩, m + 1, hW.out⟩)
            | (go_ret; exact ⟨⟨false, by simp [HNE.out], rfl⟩, m + 1, hW.out⟩)
            | (exfalso; exact HPQ.out ⟨by assumption, by assumption, by assumption, by assumption, by assumption⟩)
            | (trace_state; fail)
      · go_wp2
        go_ret
        obtain rfl : k = N := by omega
        refine ⟨⟨true, ?_, rfl⟩, m, rfl⟩
        have h := HT.out
        rw [List.take_of_length_le (by rw [HN.out]; exact Nat.le_refl _), List.take_of_length_le (by rw [← HQ.out]; exact Nat.le_refl _)] at h
        simp [h]
  · have hne : p ≠ q := fun h => hlen (by rw [h])
    have HNE := Lib.hid hne
    have hl2 : (p.length : Int) ≠ (q.length : Int) := by omega
    have hp1 : (p.length : Int) ≤ 2000 := by omega
    have hq1 : (q.length : Int) ≤ 2000 := by omega
    clear hne hlen hp hq
    generalize p.length = N1 at *
    generalize q.length = N2 at *
    go_enter Try.func29, Try.ntmps29
    go_wp2
    go_ret
    exact ⟨⟨false, by simp [HNE.out], rfl⟩, 0, rfl⟩
end Go.Proofs.Ytihgljfiggdcpaa.isa
