/- Images: a task read. -/
import Derived.Test.YtkmalnojkjmjiaaImgG
namespace Go.Proofs.Ytkmalnojkjmjiaa.img
open Go Go.RowKit Go.Proofs.Ytkmalnojkjmjiaa.kit Go.Proofs.Ytkmalnojkjmjiaa.obj Go.Proofs.Ytkmalnojkjmjiaa.mem Go.Proofs.Ytkmalnojkjmjiaa.lay Go.Proofs.Ytkmalnojkjmjiaa.codec Go.Proofs.Ytkmalnojkjmjiaa.blk
set_option linter.unusedVariables false
set_option linter.unusedSimpArgs false
set_option maxRecDepth 20000
theorem reads_ins (w : World) (i : Ins) : Reads (w.alloc (.cells #[.int .i64 i.op, .int .i64 i.a, .int .i64 i.b, .int .i64 i.c, .int .u32 i.n] 60)) 5 (.slice (some ⟨w.heap.size, 0, none⟩) 1 1) 1 i.cells :=
  ⟨rfl, by decide, .inr ⟨by decide, w.heap.size, 0, 1, rfl, Nat.le_refl _, by decide, fun k u hu => by rw [Nat.zero_add]; exact (Blk.new w _ _).cell (by simpa [Ins.cells] using hu)⟩⟩
theorem row_next {zs : List Int} {n m : Nat} {ss sx : St} {row : List Ins} {i : Ins} (h : row.length = m ∧ (∀ x ∈ row, fit4 x.n) ∧ rowV (insV zs) (insS zs) n ss = row ++ rowV (insV zs) (insS zs) (n - m) sx ∧ rowS (insS zs) n ss = rowS (insS zs) (n - m) sx) (hg : sx.bad = false) (hi : i = insV zs sx) (hb : fit4 i.n) (hlt : m < n) :
    (row ++ [i]).length = m + 1 ∧ (∀ y ∈ row ++ [i], fit4 y.n) ∧ rowV (insV zs) (insS zs) n ss = (row ++ [i]) ++ rowV (insV zs) (insS zs) (n - (m + 1)) (insS zs sx) ∧ rowS (insS zs) n ss = rowS (insS zs) (n - (m + 1)) (insS zs sx) := by
  obtain ⟨h1, h2, h3, h4⟩ := h
  subst hi
  have e : n - m = (n - (m + 1)) + 1 := by omega
  rw [e] at h3 h4
  refine ⟨by simp [h1], fun y hy => ?_, by rw [h3, rowV, hg, List.append_assoc]; rfl, by rw [h4, rowS, hg]; rfl⟩
  rcases List.mem_append.1 hy with hy | hy
  · exact h2 y hy
  · simp at hy; subst hy; exact hb
set_option maxHeartbeats 16000000 in
theorem readTask_any (b g : Nat) (zs : List Int) (s0 : St) (W : World) (h : RSt W b g zs s0) :
    Calls Try.prog 21 #[.pointer (some ⟨b, 0, none⟩)] W fun e W' => ∃ (kind prio period offset deadline own : Int) (code : List Ins) (ra : Option Addr) (rc : Nat), e = .returned (.agg #[.int .i64 kind, .int .i64 prio, .int .i64 period, .int .i64 offset, .int .i64 deadline, .int .i64 own, (.slice ra code.length rc)]) ∧ (tkV zs s0 = ⟨kind, prio, period, offset, deadline, own, code⟩ ∧ code.length ≤ 255 ∧ (∀ i ∈ code, fit4 i.n) ∧ 0 ≤ own ∧ own ≤ 255) ∧ OwnC W' W.heap.size (.slice ra code.length rc) code ∧ RSt W' b g zs (tkS zs s0) ∧ Chg [b] W W' := by
  obtain ⟨i0, hi, hz0, hz1, hz2⟩ := info_parts infoIns
  have HI1 : Hid (Try.prog.info? 60 = some i0 ∧ i0.zero = some (.agg #[.int .i64 0, .int .i64 0, .int .i64 0, .int .i64 0, .int .u32 0]) ∧ i0.size = 5 ∧ i0.bytes = 40) := Lib.hid ⟨hi, hz0, hz1, hz2⟩
  have HCA : Hid (Chg [b] W (W.alloc (.cells #[.int .i64 0, .int .i64 0, .int .i64 0, .int .i64 0, .int .i64 0, .int .i64 0, .slice none 0 0] 41))) := Lib.hid ((Chg.refl _ _).alloc _)
  have HR0 : Hid (RSt (W.alloc (.cells #[.int .i64 0, .int .i64 0, .int .i64 0, .int .i64 0, .int .i64 0, .int .i64 0, .slice none 0 0] 41)) b g zs s0) := Lib.hid (h.keep (L := []) ((Chg.refl _ _).alloc _) (by simp) (by simp))
  have HC0 : Hid (Chg [b] (W.alloc (.cells #[.int .i64 0, .int .i64 0, .int .i64 0, .int .i64 0, .int .i64 0, .int .i64 0, .slice none 0 0] 41)) (W.alloc (.cells #[.int .i64 0, .int .i64 0, .int .i64 0, .int .i64 0, .int .i64 0, .int .i64 0, .slice none 0 0] 41))) := Lib.hid (Chg.refl _ _)
  have HBR : Hid (Blk (W.alloc (.cells #[.int .i64 0, .int .i64 0, .int .i64 0, .int .i64 0, .int .i64 0, .int .i64 0, .slice none 0 0] 41)) W.heap.size #[.int .i64 0, .int .i64 0, .int .i64 0, .int .i64 0, .int .i64 0, .int .i64 0, .slice none 0 0] 41) := Lib.hid (Blk.new W _ _)
  have HBL : Hid (b < W.heap.size ∧ g < W.heap.size) := Lib.hid ⟨h.box.lt, h.bytes.lt⟩
  clear hi hz0 hz1 hz2 h
  go_enter Try.func21, Try.ntmps21
  go_wp2_with (first | (go_at_call 19; (with_reducible refine (U8_st b g zs _ _ HR0.out).mono ?_); rintro e w1 ⟨kind, s1, rfl, HX1, hr, hc⟩; have HR1 := Lib.hid hr; have HC1 := Lib.hid (HC0.out.trans hc); clear hr hc) | (go_at_call 19; (with_reducible refine (U8_st b g zs _ _ HR1.out).mono ?_); rintro e w2 ⟨prio, s2, rfl, HX2, hr, hc⟩; have HR2 := Lib.hid hr; have HC2 := Lib.hid (HC1.out.trans hc); clear hr hc) | (go_at_call 40; (with_reducible refine (U32_st b g zs _ _ HR2.out).mono ?_); rintro e w3 ⟨period, s3, rfl, HX3, hr, hc⟩; have HR3 := Lib.hid hr; have HC3 := Lib.hid (HC2.out.trans hc); have kw3 : IntKind.i64.wrap period = period := (by have := HX3.out; rw [IntKind.wrap_i64]; omega); clear hr hc) | (go_at_call 40; (with_reducible refine (U32_st b g zs _ _ HR3.out).mono ?_); rintro e w4 ⟨offset, s4, rfl, HX4, hr, hc⟩; have HR4 := Lib.hid hr; have HC4 := Lib.hid (HC3.out.trans hc); have kw4 : IntKind.i64.wrap offset = offset := (by have := HX4.out; rw [IntKind.wrap_i64]; omega); clear hr hc) | (go_at_call 40; (with_reducible refine (U32_st b g zs _ _ HR4.out).mono ?_); rintro e w5 ⟨deadline, s5, rfl, HX5, hr, hc⟩; have HR5 := Lib.hid hr; have HC5 := Lib.hid (HC4.out.trans hc); have kw5 : IntKind.i64.wrap deadline = deadline := (by have := HX5.out; rw [IntKind.wrap_i64]; omega); clear hr hc) | (go_at_call 19; (with_reducible refine (U8_st b g zs _ _ HR5.out).mono ?_); rintro e w6 ⟨own, s6, rfl, HX6, hr, hc⟩; have HR6 := Lib.hid hr; have HC6 := Lib.hid (HC5.out.trans hc); have HR6b := Lib.hid (HR6.out.keep (L := []) ((Chg.refl [] w6).alloc (.cells #[.int .i64 kind, .int .i64 prio, .int .i64 period, .int .i64 offset, .int .i64 deadline, .int .i64 own, (.slice none 0 0)] 41)) (by simp) (by simp)); have HC6b := Lib.hid (HC6.out.alloc (.cells #[.int .i64 kind, .int .i64 prio, .int .i64 period, .int .i64 offset, .int .i64 deadline, .int .i64 own, (.slice none 0 0)] 41)); clear hr hc) | (go_at_call 19; (with_reducible refine (U8_st b g zs _ _ HR6b.out).mono ?_); rintro e w7 ⟨x7, s7, rfl, HX7, hr, hc⟩; have HR7 := Lib.hid hr; have HC7 := Lib.hid (HC6b.out.trans hc); have HC67 := Lib.hid hc; (obtain ⟨n1, rfl⟩ : ∃ n : Nat, x7 = (n : Int) := ⟨x7.toNat, (by have := HX7.out; omega)⟩); clear hr hc))
  have HBT7 : Hid (Blk w7 w6.heap.size #[.int .i64 kind, .int .i64 prio, .int .i64 period, .int .i64 offset, .int .i64 deadline, .int .i64 own, (.slice none 0 0)] 41) := Lib.hid ((Blk.new w6 _ _).keep HC67.out (by have h1 := HBL.out; have h2 := HC6.out.size; simp at h2 ⊢; omega))
  have HNB : Hid (n1 ≤ 255) := Lib.hid (by have := HX7.out; omega)
  have HNE : Hid (w6.heap.size ≠ b ∧ w6.heap.size ≠ g ∧ b < w7.heap.size ∧ g < w7.heap.size ∧ w6.heap.size < w7.heap.size) := Lib.hid (by have h1 := HBL.out; have h2 := HC6.out.size; have h3 := HR7.out.box.lt; have h4 := HR7.out.bytes.lt; have h5 := HBT7.out.lt; simp at h2; omega)
  clear kw3 kw4 kw5
  go_loopw [22] (fun i wr => ∃ (m : Nat) (sx : St) (code : List Ins) (ra_ : Option Addr) (rc_ : Nat), m ≤ n1 ∧ i = .int .i64 m ∧ Hid (code.length = m ∧ (∀ x ∈ code, fit4 x.n) ∧ rowV (insV zs) (insS zs) n1 s7 = code ++ rowV (insV zs) (insS zs) (n1 - m) sx ∧ rowS (insS zs) n1 s7 = rowS (insS zs) (n1 - m) sx) ∧ Hid (Blk wr w6.heap.size #[.int .i64 kind, .int .i64 prio, .int .i64 period, .int .i64 offset, .int .i64 deadline, .int .i64 own, (.slice ra_ code.length rc_)] 41) ∧ Hid (OwnC wr w7.heap.size (.slice ra_ code.length rc_) code) ∧ Hid (RSt wr b g zs sx) ∧ Hid (Chg [b, w6.heap.size] w7 wr)) (fun i _ => n1 - (intOf i).toNat)
  case atStart => exact ⟨0, s7, [], none, 0, Nat.zero_le _, rfl, Lib.hid ⟨rfl, by simp, by simp, by simp⟩, HBT7, Lib.hid (World.ownsRow_nil _ _ _ _), HR7, Lib.hid (Chg.refl _ _)⟩
  case round =>
    clear HBT7 HR7
    obtain ⟨m, sx, code, ra_, rc_, hm, rfl, HLX, HBT, HOW, HRS, HJ⟩ := hrel
    obtain ⟨wo, rfl⟩ : ∃ wo : World, wo = wr := ⟨_, rfl⟩
    by_cases hlt : m < n1
    · have HLT := Lib.hid hlt
      have hmn : (m : Int) < (n1 : Int) := by omega
      have hm1000 : (m : Int) < 1000 := by have := HNB.out; omega
      have k8 : IntKind.i64.wrap ((m : Int) + 1) = (m : Int) + 1 := by rw [IntKind.wrap_i64]; omega
      cases hbad : sx.bad
      rotate_left
      · have HBAD := Lib.hid hbad
        clear hbad hlt hm
        have HLI : Hid (rowV (insV zs) (insS zs) n1 s7 = code ∧ rowS (insS zs) n1 s7 = sx ∧ code.length ≤ 255 ∧ ∀ i ∈ code, fit4 i.n) := Lib.hid (by have h9 := HLX.out; obtain ⟨k, hk⟩ : ∃ k, n1 - m = k + 1 := ⟨n1 - m - 1, by have := HLT.out; omega⟩; rw [hk] at h9; simp only [rowV, rowS, HBAD.out, if_true, List.append_nil] at h9; exact ⟨h9.2.2.1, h9.2.2.2, by have := HNB.out; have := HLT.out; omega, h9.2.1⟩)
        have HCF : Hid (Chg [b] (W.alloc (.cells #[.int .i64 0, .int .i64 0, .int .i64 0, .int .i64 0, .int .i64 0, .int .i64 0, .slice none 0 0] 41)) wo) := Lib.hid (HC7.out.into HJ.out (fun y hy => by simp at hy; rcases hy with rfl | rfl; exact .inl (by simp); right; have := HC6.out.size; simp at this ⊢; omega))
        have HBRF : Hid (Blk wo W.heap.size #[.int .i64 0, .int .i64 0, .int .i64 0, .int .i64 0, .int .i64 0, .int .i64 0, .slice none 0 0] 41) := Lib.hid (HBR.out.keep HCF.out (by have := HBL.out; simp; omega))
        clear HLX
        go_wp2_with (first | (go_at_call 20; refine (Err_st b g zs sx _ HRS.out).mono ?_; rintro e wq ⟨rfl, rfl⟩; rw [HBAD.out]) | (refine wpList_load_blk rfl 41 (.tmp 3) rfl w6.heap.size rfl HBT.out _ Try.underlying41 rfl szTask ?_) | (refine wpList_store_blk rfl 41 (.tmp 2) (.tmp 44) rfl W.heap.size #[.int .i64 kind, .int .i64 prio, .int .i64 period, .int .i64 offset, .int .i64 deadline, .int .i64 own, (.slice ra_ code.length rc_)] rfl rfl HBRF.out szTask rfl (by simp [Value.oneCell']) ?_; intro w9 hb9 hc9; have HB9 := Lib.hid hb9; have HC9 := Lib.hid hc9; clear hb9 hc9))
        refine bodyPost_ret (results_cell_row rfl _ _ W.heap.size 41 #[.int .i64 kind, .int .i64 prio, .int .i64 period, .int .i64 offset, .int .i64 deadline, .int .i64 own, (.slice ra_ code.length rc_)] (0, 0) _ rfl HB9.out Try.underlying41 rfl szTask) rfl ?_
        refine ⟨kind, prio, period, offset, deadline, own, code, ra_, rc_, rfl, ⟨?_, HLI.out.2.2.1, HLI.out.2.2.2, HX6.out.2⟩, ?_, ?_, ?_⟩
        · obtain ⟨⟨rfl, rfl⟩, -⟩ := HX1.out
          obtain ⟨⟨rfl, rfl⟩, -⟩ := HX2.out
          obtain ⟨⟨rfl, rfl⟩, -⟩ := HX3.out
          obtain ⟨⟨rfl, rfl⟩, -⟩ := HX4.out
          obtain ⟨⟨rfl, rfl⟩, -⟩ := HX5.out
          obtain ⟨⟨rfl, rfl⟩, -⟩ := HX6.out
          obtain ⟨⟨e7, rfl⟩, -⟩ := HX7.out
          have h8 := HLI.out
          unfold tkV hd7
          rw [← e7, Int.toNat_natCast, h8.1]
        · exact mem.own_base (mem.own_chg HOW.out HC9.out (fun y hy => by have h1 := (World.ownsRow.lt HOW.out y hy).1; have h2 := HC7.out.size; have h3 := HNE.out; have h4 := HCA.out.size; have h5 := HC6.out.size; simp at *; omega)) (by have h2 := HC7.out.size; simp at h2; omega)
        · obtain ⟨⟨rfl, rfl⟩, -⟩ := HX1.out
          obtain ⟨⟨rfl, rfl⟩, -⟩ := HX2.out
          obtain ⟨⟨rfl, rfl⟩, -⟩ := HX3.out
          obtain ⟨⟨rfl, rfl⟩, -⟩ := HX4.out
          obtain ⟨⟨rfl, rfl⟩, -⟩ := HX5.out
          obtain ⟨⟨rfl, rfl⟩, -⟩ := HX6.out
          obtain ⟨⟨e7, rfl⟩, -⟩ := HX7.out
          have h8 := HLI.out
          have hst : tkS zs s0 = sx := by
            unfold tkS hd7
            rw [← e7, Int.toNat_natCast, h8.2.1]
          rw [hst]
          exact HRS.out.keep HC9.out (by have := HBL.out; simp; omega) (by have := HBL.out; simp; omega)
        · exact (HCA.out.trans HCF.out).into HC9.out (fun y hy => .inr (by simp at hy; omega))
      have HBAD := Lib.hid hbad
      have HNT : Hid (∀ y, (Value.slice ra_ code.length rc_).ownBlock = some y → w7.heap.size ≤ y) := Lib.hid (fun y hy => (World.ownsRow.lt HOW.out y hy).1)
      have HTL : Hid (w6.heap.size ∉ (b :: (Value.slice ra_ code.length rc_).ownBlock.toList)) := Lib.hid (by intro hh; simp only [List.mem_cons, Option.mem_toList] at hh; have h1 := HNE.out; rcases hh with hh | hh; exact h1.1 hh; have h2 := HNT.out _ hh; omega)
      have eF := HBT.out.cell (o := 6) rfl
      have KEEP := Lib.hid (fun (V : World) (h : Chg (b :: (Value.slice ra_ code.length rc_).ownBlock.toList) wo V) => (⟨h.keep eF HTL.out, Lib.hid h⟩ : (fun V : World => V.cell? ⟨w6.heap.size, 6, none⟩ = some (.slice ra_ code.length rc_) ∧ Hid (Chg (b :: (Value.slice ra_ code.length rc_).ownBlock.toList) wo V)) V))
      clear eF hm hlt hbad
      go_upto_region 5 with (go_at_call 20; refine (Err_st b g zs sx _ HRS.out).mono ?_; rintro e wq ⟨rfl, rfl⟩; rw [HBAD.out])
      have HD : Hid (Chg [b] wo wo.drew) := Lib.hid (Chg.refl _ _).drew
      have hHeld : (fun V : World => V.cell? ⟨w6.heap.size, 6, none⟩ = some (.slice ra_ code.length rc_) ∧ Hid (Chg (b :: (Value.slice ra_ code.length rc_).ownBlock.toList) wo V)) wo.drew := KEEP.out _ (HD.out.mono (by simp))
      refine wp_region_planT (fun V : World => V.cell? ⟨w6.heap.size, 6, none⟩ = some (.slice ra_ code.length rc_) ∧ Hid (Chg (b :: (Value.slice ra_ code.length rc_).ownBlock.toList) wo V)) 16 [(0, true, some 27), (1, true, some 28), (2, true, some 29), (4, true, some 31), (6, true, some 33), (8, true, some 35), (10, true, some 37), (3, false, some 30), (5, false, some 32), (7, false, some 34), (9, false, some 36), (11, false, some 38), (12, true, some 39), (13, false, some 40), (14, false, some 41), (15, true, some 42)] (by kernel_rfl) (by kernel_rfl) (by kernel_rfl) (by kernel_rfl) (by kernel_rfl) (fun d c a v w h => by cases d <;> exact h) hHeld ?_
      clear hHeld
      (repeat (refine planT_read (v := ?_) rfl rfl ?_ ?_ ?_; rotate_left; (focus rfl); (focus (intro u hSw; (try dsimp only at hSw); go_simp; (try with_reducible rfl); done)); ((try dsimp only); (try simp only [Act.put, List.setIfInBounds_toArray, List.set_cons_zero, List.set_cons_succ]))))
      refine planT_do rfl rfl ?_ (fun K hK => ?_)
      · rfl
      go_simp
      go_wp2_with (go_at_call 19; refine (U8_st b g zs sx wo.drew (HRS.out.keep (L := []) (Chg.refl _ _).drew (by simp) (by simp))).mono ?_; rintro e u1w ⟨iop, y1, rfl, HY1, hr, hc⟩; have HRY1 := Lib.hid hr; have HCY1 : Hid (Chg [b] wo u1w) := Lib.hid (HD.out.trans hc); clear hr hc)
      refine hK.out _ _ (KEEP.out _ (HCY1.out.mono (by simp))) (fun _ => ?_)
      clear hK K
      ((try dsimp only); (try simp only [Act.put, List.setIfInBounds_toArray, List.set_cons_zero, List.set_cons_succ]))
      refine planT_do rfl rfl ?_ (fun K hK => ?_)
      · rfl
      go_simp
      go_wp2_with (go_at_call 19; refine (U8_st b g zs y1 u1w HRY1.out).mono ?_; rintro e u2w ⟨ia, y2, rfl, HY2, hr, hc⟩; have HRY2 := Lib.hid hr; have HCY2 : Hid (Chg [b] wo u2w) := Lib.hid (HCY1.out.trans hc); clear hr hc)
      refine hK.out _ _ (KEEP.out _ (HCY2.out.mono (by simp))) (fun _ => ?_)
      clear hK K
      ((try dsimp only); (try simp only [Act.put, List.setIfInBounds_toArray, List.set_cons_zero, List.set_cons_succ]))
      refine planT_do rfl rfl ?_ (fun K hK => ?_)
      · rfl
      go_simp
      go_wp2_with (go_at_call 19; refine (U8_st b g zs y2 u2w HRY2.out).mono ?_; rintro e u3w ⟨ib, y3, rfl, HY3, hr, hc⟩; have HRY3 := Lib.hid hr; have HCY3 : Hid (Chg [b] wo u3w) := Lib.hid (HCY2.out.trans hc); clear hr hc)
      refine hK.out _ _ (KEEP.out _ (HCY3.out.mono (by simp))) (fun _ => ?_)
      clear hK K
      ((try dsimp only); (try simp only [Act.put, List.setIfInBounds_toArray, List.set_cons_zero, List.set_cons_succ]))
      refine planT_do rfl rfl ?_ (fun K hK => ?_)
      · rfl
      go_simp
      go_wp2_with (go_at_call 19; refine (U8_st b g zs y3 u3w HRY3.out).mono ?_; rintro e u4w ⟨ic, y4, rfl, HY4, hr, hc⟩; have HRY4 := Lib.hid hr; have HCY4 : Hid (Chg [b] wo u4w) := Lib.hid (HCY3.out.trans hc); clear hr hc)
      refine hK.out _ _ (KEEP.out _ (HCY4.out.mono (by simp))) (fun _ => ?_)
      clear hK K
      ((try dsimp only); (try simp only [Act.put, List.setIfInBounds_toArray, List.set_cons_zero, List.set_cons_succ]))
      refine planT_do rfl rfl ?_ (fun K hK => ?_)
      · rfl
      go_simp
      go_wp2_with (go_at_call 40; refine (U32_st b g zs y4 u4w HRY4.out).mono ?_; rintro e wa ⟨iN, y5, rfl, HY5, hr, hc⟩; have HRY := Lib.hid hr; have HCY : Hid (Chg [b] wo wa) := Lib.hid (HCY4.out.trans hc); clear hr hc)
      refine hK.out _ _ (KEEP.out _ (HCY.out.mono (by simp))) (fun _ => ?_)
      clear hK K
      ((try dsimp only); (try simp only [Act.put, List.setIfInBounds_toArray, List.set_cons_zero, List.set_cons_succ]))
      (repeat (refine planT_read (v := ?_) rfl rfl ?_ ?_ ?_; rotate_left; (focus rfl); (focus (intro u hSw; (try dsimp only at hSw); go_simp; (try with_reducible rfl); done)); ((try dsimp only); (try simp only [Act.put, List.setIfInBounds_toArray, List.set_cons_zero, List.set_cons_succ]))))
      refine planT_do rfl rfl ?_ (fun K hK => ?_)
      · rfl
      go_simp
      refine hK.out _ _ (KEEP.out _ ((HCY.out.alloc _).mono (by simp))) (fun _ => ?_)
      clear hK K
      ((try dsimp only); (try simp only [Act.put, List.setIfInBounds_toArray, List.set_cons_zero, List.set_cons_succ]))
      refine planT_do rfl rfl ?_ (fun K hK => ?_)
      · rfl
      have HOY : Hid (OwnC (wa.alloc (.cells #[.int .i64 iop, .int .i64 ia, .int .i64 ib, .int .i64 ic, .int .u32 iN] 60)) w7.heap.size (.slice ra_ code.length rc_) code) := Lib.hid (mem.own_chg HOW.out (HCY.out.alloc _) (fun y hy => by have := HNT.out y hy; have := HNE.out; simp; omega))
      have HBS : Hid (w7.heap.size ≤ (wa.alloc (.cells #[.int .i64 iop, .int .i64 ia, .int .i64 ib, .int .i64 ic, .int .u32 iN] 60)).heap.size) := Lib.hid (Nat.le_trans HJ.out.size (HCY.out.alloc _).size)
      have HLB : Hid (code.length ≤ 1000) := Lib.hid (by have := HLX.out.1; have := HNB.out; have := HLT.out; omega)
      refine wp_append_any (o := ⟨some 41, _, _, _, _, _⟩) _ (.tmp 28) (.tmp 40) 39 rfl w7.heap.size 60 _ (.agg #[.int .i64 0, .int .i64 0, .int .i64 0, .int .i64 0, .int .u32 0]) 5 40 Try.underlying39 HI1.out.1 HI1.out.2.1 HI1.out.2.2.1 HI1.out.2.2.2 rfl (by decide) _ _ _ rfl HOY.out _ 1 (Ins.cells ⟨iop, ia, ib, ic, iN⟩) rfl (reads_ins wa ⟨iop, ia, ib, ic, iN⟩) (by intro u hu; simp [Ins.cells] at hu; rcases hu with rfl | rfl | rfl | rfl | rfl <;> rfl) (by have := HLB.out; unfold maxLen; omega) (by have := HLB.out; omega) HBS.out ?_
      intro v5 w5 ho5 hg5
      have HO5 : Hid (OwnC w5 w7.heap.size v5 (code ++ [(⟨iop, ia, ib, ic, iN⟩ : Ins)])) := Lib.hid (OwnC.add ho5)
      have HC5 : Hid (Chg [b, w6.heap.size] w7 w5) := Lib.hid (((HJ.out.into (L := [b]) HCY.out (fun y hy => .inl (by simp at hy; simp [hy]))).alloc _).grown hg5 (fun y hy => .inr (World.ownsRow.lt HOY.out y hy).1))
      have HCT : Hid (Chg (b :: (Value.slice ra_ code.length rc_).ownBlock.toList) wo w5) := Lib.hid (((HCY.out.mono (L' := (b :: (Value.slice ra_ code.length rc_).ownBlock.toList)) (by simp)).alloc _).grown hg5 (fun y hy => .inl (List.mem_cons_of_mem _ (Option.mem_toList.2 hy))))
      have HB5 : Hid (Blk w5 w6.heap.size #[.int .i64 kind, .int .i64 prio, .int .i64 period, .int .i64 offset, .int .i64 deadline, .int .i64 own, (.slice ra_ code.length rc_)] 41) := Lib.hid (HBT.out.keep HCT.out HTL.out)
      have HR5 : Hid (RSt w5 b g zs y5) := Lib.hid ((HRY.out.keep (L := []) ((Chg.refl [] wa).alloc (.cells #[.int .i64 iop, .int .i64 ia, .int .i64 ib, .int .i64 ic, .int .u32 iN] 60)) (by simp) (by simp)).keep (L := (Value.slice ra_ code.length rc_).ownBlock.toList) ((Chg.refl _ _).grown hg5 (fun y hy => .inl (Option.mem_toList.2 hy))) (by intro hh; simp only [Option.mem_toList] at hh; have h1 := HNE.out; have h2 := HNT.out _ hh; omega) (by intro hh; simp only [Option.mem_toList] at hh; have h1 := HNE.out; have h2 := HNT.out _ hh; omega))
      obtain ⟨a5, c5, rfl⟩ := own_slice HO5.out (by decide)
      clear ho5 hg5
      refine hK.out _ _ (KEEP.out _ HCT.out) (fun _ => ?_)
      clear hK K
      ((try dsimp only); (try simp only [Act.put, List.setIfInBounds_toArray, List.set_cons_zero, List.set_cons_succ]))
      (repeat (refine planT_read (v := ?_) rfl rfl ?_ ?_ ?_; rotate_left; (focus rfl); (focus (intro u hSw; (try dsimp only at hSw); go_simp; (try with_reducible rfl); done)); ((try dsimp only); (try simp only [Act.put, List.setIfInBounds_toArray, List.set_cons_zero, List.set_cons_succ]))))
      have f5 := HB5.out.free 6
      have e5 := HB5.out.cell (o := 6) rfl
      refine planT_last rfl ?_ (fun K hK => ?_)
      · rfl
      go_simp
      refine hK.out _ _ ?_
      clear hK K f5 e5 KEEP
      ((try dsimp only); (try simp only [Act.put, List.setIfInBounds_toArray, List.set_cons_zero, List.set_cons_succ]))
      have HB6 : Hid (Blk (w5.setCell ⟨w6.heap.size, 6, none⟩ (.slice a5 (code.length + 1) c5)) w6.heap.size #[.int .i64 kind, .int .i64 prio, .int .i64 period, .int .i64 offset, .int .i64 deadline, .int .i64 own, (.slice a5 (code ++ [(⟨iop, ia, ib, ic, iN⟩ : Ins)]).length c5)] 41) := Lib.hid (by have h9 := HB5.out.set 6 (.slice a5 (code.length + 1) c5); simp only [List.setIfInBounds_toArray, List.set_cons_zero, List.set_cons_succ] at h9; rw [show (code ++ [(⟨iop, ia, ib, ic, iN⟩ : Ins)]).length = code.length + 1 by simp]; exact h9)
      have HC6 : Hid (Chg [w6.heap.size] w5 (w5.setCell ⟨w6.heap.size, 6, none⟩ (.slice a5 (code.length + 1) c5))) := Lib.hid ((Chg.refl _ _).setCell (.inl (by simp)) _)
      have HO6 : Hid (OwnC (w5.setCell ⟨w6.heap.size, 6, none⟩ (.slice a5 (code.length + 1) c5)) w7.heap.size (.slice a5 (code ++ [(⟨iop, ia, ib, ic, iN⟩ : Ins)]).length c5) (code ++ [(⟨iop, ia, ib, ic, iN⟩ : Ins)])) := Lib.hid (mem.own_chg HO5.out HC6.out (fun y hy => by have h8 := (World.ownsRow.lt HO5.out y hy).1; have h7 := HNE.out; simp; omega))
      have HR6 := Lib.hid (HR5.out.keep HC6.out (by simp; exact fun h => HNE.out.1 h.symm) (by simp; exact fun h => HNE.out.2.1 h.symm))
      have HC7' := Lib.hid (HC5.out.into HC6.out (fun y hy => .inl (by simp at hy; simp [hy])))
      have HIV : Hid ((⟨iop, ia, ib, ic, iN⟩ : Ins) = insV zs sx ∧ y5 = insS zs sx) := Lib.hid (by
        obtain ⟨⟨rfl, rfl⟩, -⟩ := HY1.out
        obtain ⟨⟨rfl, rfl⟩, -⟩ := HY2.out
        obtain ⟨⟨rfl, rfl⟩, -⟩ := HY3.out
        obtain ⟨⟨rfl, rfl⟩, -⟩ := HY4.out
        obtain ⟨⟨rfl, rfl⟩, -⟩ := HY5.out
        exact ⟨rfl, rfl⟩)
      go_wp2_with fail
      have hltj := HLT.out
      go_roundw
      case rel => exact ⟨m + 1, y5, code ++ [(⟨iop, ia, ib, ic, iN⟩ : Ins)], a5, c5, by omega, by go_num, Lib.hid (by rw [HIV.out.2]; exact row_next HLX.out HBAD.out HIV.out.1 HY5.out.2 HLT.out), HB6, HO6, HR6, HC7'⟩
      case measure => simp [intOf]; omega
    · obtain rfl : n1 = m := by omega
      clear hlt hm
      have HLI : Hid (rowV (insV zs) (insS zs) n1 s7 = code ∧ rowS (insS zs) n1 s7 = sx ∧ code.length ≤ 255 ∧ ∀ i ∈ code, fit4 i.n) := Lib.hid (by have h9 := HLX.out; rw [Nat.sub_self] at h9; simp only [rowV, rowS, List.append_nil] at h9; exact ⟨h9.2.2.1, h9.2.2.2, by have := HNB.out; omega, h9.2.1⟩)
      have HCF : Hid (Chg [b] (W.alloc (.cells #[.int .i64 0, .int .i64 0, .int .i64 0, .int .i64 0, .int .i64 0, .int .i64 0, .slice none 0 0] 41)) wo) := Lib.hid (HC7.out.into HJ.out (fun y hy => by simp at hy; rcases hy with rfl | rfl; exact .inl (by simp); right; have := HC6.out.size; simp at this ⊢; omega))
      have HBRF : Hid (Blk wo W.heap.size #[.int .i64 0, .int .i64 0, .int .i64 0, .int .i64 0, .int .i64 0, .int .i64 0, .slice none 0 0] 41) := Lib.hid (HBR.out.keep HCF.out (by have := HBL.out; simp; omega))
      clear HLX
      go_wp2_with (first | (refine wpList_load_blk rfl 41 (.tmp 3) rfl w6.heap.size rfl HBT.out _ Try.underlying41 rfl szTask ?_) | (refine wpList_store_blk rfl 41 (.tmp 2) (.tmp 44) rfl W.heap.size #[.int .i64 kind, .int .i64 prio, .int .i64 period, .int .i64 offset, .int .i64 deadline, .int .i64 own, (.slice ra_ code.length rc_)] rfl rfl HBRF.out szTask rfl (by simp [Value.oneCell']) ?_; intro w9 hb9 hc9; have HB9 := Lib.hid hb9; have HC9 := Lib.hid hc9; clear hb9 hc9))
      refine bodyPost_ret (results_cell_row rfl _ _ W.heap.size 41 #[.int .i64 kind, .int .i64 prio, .int .i64 period, .int .i64 offset, .int .i64 deadline, .int .i64 own, (.slice ra_ code.length rc_)] (0, 0) _ rfl HB9.out Try.underlying41 rfl szTask) rfl ?_
      refine ⟨kind, prio, period, offset, deadline, own, code, ra_, rc_, rfl, ⟨?_, HLI.out.2.2.1, HLI.out.2.2.2, HX6.out.2⟩, ?_, ?_, ?_⟩
      · obtain ⟨⟨rfl, rfl⟩, -⟩ := HX1.out
        obtain ⟨⟨rfl, rfl⟩, -⟩ := HX2.out
        obtain ⟨⟨rfl, rfl⟩, -⟩ := HX3.out
        obtain ⟨⟨rfl, rfl⟩, -⟩ := HX4.out
        obtain ⟨⟨rfl, rfl⟩, -⟩ := HX5.out
        obtain ⟨⟨rfl, rfl⟩, -⟩ := HX6.out
        obtain ⟨⟨e7, rfl⟩, -⟩ := HX7.out
        have h8 := HLI.out
        unfold tkV hd7
        rw [← e7, Int.toNat_natCast, h8.1]
      · exact mem.own_base (mem.own_chg HOW.out HC9.out (fun y hy => by have h1 := (World.ownsRow.lt HOW.out y hy).1; have h2 := HC7.out.size; have h3 := HNE.out; have h4 := HCA.out.size; have h5 := HC6.out.size; simp at *; omega)) (by have h2 := HC7.out.size; simp at h2; omega)
      · obtain ⟨⟨rfl, rfl⟩, -⟩ := HX1.out
        obtain ⟨⟨rfl, rfl⟩, -⟩ := HX2.out
        obtain ⟨⟨rfl, rfl⟩, -⟩ := HX3.out
        obtain ⟨⟨rfl, rfl⟩, -⟩ := HX4.out
        obtain ⟨⟨rfl, rfl⟩, -⟩ := HX5.out
        obtain ⟨⟨rfl, rfl⟩, -⟩ := HX6.out
        obtain ⟨⟨e7, rfl⟩, -⟩ := HX7.out
        have h8 := HLI.out
        have hst : tkS zs s0 = sx := by
          unfold tkS hd7
          rw [← e7, Int.toNat_natCast, h8.2.1]
        rw [hst]
        exact HRS.out.keep HC9.out (by have := HBL.out; simp; omega) (by have := HBL.out; simp; omega)
      · exact (HCA.out.trans HCF.out).into HC9.out (fun y hy => .inr (by simp at hy; omega))
end Go.Proofs.Ytkmalnojkjmjiaa.img
