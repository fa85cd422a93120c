/- Images: a reader's numbers by its state; an object read; a task read. -/
import Derived.Test.YtkmalnojkjmjiaaImgD
import Derived.Test.YtkmalnojkjmjiaaBlk
namespace Go.Proofs.Ytkmalnojkjmjiaa.img
open Go Go.RowKit Go.Proofs.Ytkmalnojkjmjiaa.kit Go.Proofs.Ytkmalnojkjmjiaa.obj Go.Proofs.Ytkmalnojkjmjiaa.mem Go.Proofs.Ytkmalnojkjmjiaa.lay Go.Proofs.Ytkmalnojkjmjiaa.codec Go.Proofs.Ytkmalnojkjmjiaa.blk
set_option linter.unusedVariables false
set_option linter.unusedSimpArgs false
set_option maxRecDepth 20000
/-- a reader in memory, in some state -/
def RSt (w : World) (b g : Nat) (zs : List Int) (s : St) : Prop := RIn w b g zs s.at_ s.bad
theorem RSt.keep {w w' : World} {b g : Nat} {zs : List Int} {s : St} {L : List Nat} (h : RSt w b g zs s) (k : Chg L w w') (hb : b ∉ L) (hg : g ∉ L) : RSt w' b g zs s := RIn.keep h k hb hg
theorem pow4 {n : Nat} (hn : n ≤ 4) : (256 : Int) ^ n ≤ 4294967296 := by
  match n, hn with
  | 0, _ => decide
  | 1, _ => decide
  | 2, _ => decide
  | 3, _ => decide
  | 4, _ => decide
theorem rd_bd {zs : List Int} (hz : ∀ n ∈ zs, (Lit.int .u8 n).wf = true) (n : Nat) (s : St) : 0 ≤ rdV zs n s ∧ rdV zs n s < 256 ^ n := by
  unfold rdV
  by_cases h : s.bad = true ∨ zs.length < s.at_ + n
  · rw [if_pos h]
    exact ⟨by decide, Int.pow_pos (by decide)⟩
  · rw [if_neg h]
    have h1 := numL_bd _ (wf_piece hz s.at_ n)
    have hl : ((zs.drop s.at_).take n).length = n := by rw [List.length_take, List.length_drop]; omega
    rwa [hl] at h1
theorem num_st (b g : Nat) (zs : List Int) (s : St) (n : Nat) (hn : n ≤ 4) (w : World) (h : RSt w b g zs s) :
    Calls Try.prog 38 #[.pointer (some ⟨b, 0, none⟩), .int .i64 n] w fun e w' => e = .returned (.int .u32 (rdV zs n s)) ∧ RSt w' b g zs (rdS zs n s) ∧ Chg [b] w w' := by
  obtain ⟨a, bad⟩ := s
  unfold RSt at h ⊢
  unfold rdV rdS
  dsimp only at h ⊢
  cases bad with
  | true =>
    rw [if_pos (.inl rfl), if_pos rfl]
    refine num_none _ _ _ _ ((next_bad _ _ _ _ _ _ h).mono ?_)
    rintro e w' ⟨rfl, rfl⟩
    exact ⟨rfl, h, Chg.refl _ _⟩
  | false =>
    rw [if_neg (show ¬ (false = true) by decide)]
    by_cases hc : zs.length < a + n
    · rw [if_pos (.inr hc), if_pos hc]
      refine num_none _ _ _ _ ((next_short b g zs a n w h (.inr (by omega))).mono ?_)
      rintro e w' ⟨rfl, h1, h2⟩
      exact ⟨rfl, h1, h2⟩
    · rw [if_neg (by simp; omega), if_neg hc]
      exact num_ok b g zs a n w h (by omega) hn
theorem U8_st (b g : Nat) (zs : List Int) (s : St) (w : World) (h : RSt w b g zs s) :
    Calls Try.prog 19 #[.pointer (some ⟨b, 0, none⟩)] w fun e w' => ∃ x s', e = .returned (.int .i64 x) ∧ Hid ((x = rdV zs 1 s ∧ s' = rdS zs 1 s) ∧ 0 ≤ x ∧ x ≤ 255) ∧ RSt w' b g zs s' ∧ Chg [b] w w' := by
  have hb := rd_bd h.wf 1 s
  refine (U8_of _ (rdV zs 1 s) w _ hb.1 (by omega) (num_st b g zs s 1 (by decide) w h)).mono ?_
  rintro e w' ⟨rfl, h1, h2⟩
  exact ⟨_, _, rfl, Lib.hid ⟨⟨rfl, rfl⟩, hb.1, by omega⟩, h1, h2⟩
theorem U16_st (b g : Nat) (zs : List Int) (s : St) (w : World) (h : RSt w b g zs s) :
    Calls Try.prog 24 #[.pointer (some ⟨b, 0, none⟩)] w fun e w' => ∃ x s', e = .returned (.int .i64 x) ∧ Hid ((x = rdV zs 2 s ∧ s' = rdS zs 2 s) ∧ 0 ≤ x ∧ x ≤ 65535) ∧ RSt w' b g zs s' ∧ Chg [b] w w' := by
  have hb := rd_bd h.wf 2 s
  refine (U16_of _ (rdV zs 2 s) w _ hb.1 (by omega) (num_st b g zs s 2 (by decide) w h)).mono ?_
  rintro e w' ⟨rfl, h1, h2⟩
  exact ⟨_, _, rfl, Lib.hid ⟨⟨rfl, rfl⟩, hb.1, by omega⟩, h1, h2⟩
theorem U32_st (b g : Nat) (zs : List Int) (s : St) (w : World) (h : RSt w b g zs s) :
    Calls Try.prog 40 #[.pointer (some ⟨b, 0, none⟩)] w fun e w' => ∃ x s', e = .returned (.int .u32 x) ∧ Hid ((x = rdV zs 4 s ∧ s' = rdS zs 4 s) ∧ 0 ≤ x ∧ x ≤ 4294967295) ∧ RSt w' b g zs s' ∧ Chg [b] w w' := by
  have hb := rd_bd h.wf 4 s
  refine (U32_of _ (rdV zs 4 s) w _ hb.1 (by omega) (num_st b g zs s 4 (by decide) w h)).mono ?_
  rintro e w' ⟨rfl, h1, h2⟩
  exact ⟨_, _, rfl, Lib.hid ⟨⟨rfl, rfl⟩, hb.1, by omega⟩, h1, h2⟩
theorem Err_st (b g : Nat) (zs : List Int) (s : St) (w : World) (h : RSt w b g zs s) :
    Calls Try.prog 20 #[.pointer (some ⟨b, 0, none⟩)] w fun e w' => e = .returned (.int .i64 (if s.bad then 2 else 0)) ∧ w = w' := Err_any b g zs s.at_ s.bad w h
theorem szObject : (Try.prog.info? 53).map (·.size) = some 8 := by kernel_rfl
theorem infoI : (Try.prog.info? 3).map (fun i => (i.zero, i.size, i.bytes)) = some (some (.int .i64 0), 1, 8) := by kernel_rfl
theorem infoIns : (Try.prog.info? 60).map (fun i => (i.zero, i.size, i.bytes)) = some (some (.agg #[.int .i64 0, .int .i64 0, .int .i64 0, .int .i64 0, .int .u32 0]), 5, 40) := by kernel_rfl
/-- a row of the call's own -/
def OwnN (w : World) (B : Nat) (v : Value) (l : List Int) : Prop := w.ownsRow B 3 1 v l.length (l.map (Value.int .i64))
def OwnC (w : World) (B : Nat) (v : Value) (l : List Ins) : Prop := w.ownsRow B 60 5 v l.length (l.flatMap Ins.cells)
theorem OwnC.add {w : World} {B : Nat} {v : Value} {l : List Ins} {i : Ins} (h : w.ownsRow B 60 5 v (l.length + 1) (l.flatMap Ins.cells ++ i.cells)) : OwnC w B v (l ++ [i]) := by
  unfold OwnC
  rw [List.length_append, List.flatMap_append]
  simpa using h
theorem OwnN.add {w : World} {B : Nat} {v : Value} {l : List Int} {x : Int} (h : w.ownsRow B 3 1 v (l.length + 1) (l.map (Value.int .i64) ++ [.int .i64 x])) : OwnN w B v (l ++ [x]) := by
  unfold OwnN
  rw [List.length_append, List.map_append]
  exact h
theorem OwnW.add {w : World} {B : Nat} {v : Value} {l : List Int} {x : Int} (h : w.ownsRow B 49 1 v (l.length + 1) (l.map (Value.int .u32) ++ [.int .u32 x])) : OwnW w B v (l ++ [x]) := by
  unfold OwnW
  rw [List.length_append, List.map_append]
  exact h
theorem own_slice {w : World} {B e size n : Nat} {v : Value} {xs : List Value} (h : w.ownsRow B e size v n xs) (hs : 0 < size) : ∃ a c, v = .slice a n c := by
  obtain ⟨a, c, hv, -⟩ := reads_slice (Reads.of_own h hs)
  exact ⟨a, c, hv⟩
theorem all_next {zs : List Int} {wid n m : Nat} {ss sx sy : St} {row : List Int} {x : Int} (h : row.length = m ∧ (∀ x ∈ row, 0 ≤ x ∧ x < 256 ^ wid) ∧ allV (rdV zs wid) (rdS zs wid) n ss = row ++ allV (rdV zs wid) (rdS zs wid) (n - m) sx ∧ allS (rdS zs wid) n ss = allS (rdS zs wid) (n - m) sx) (hx : x = rdV zs wid sx ∧ sy = rdS zs wid sx) (hb : 0 ≤ x ∧ x < 256 ^ wid) (hlt : m < n) :
    (row ++ [x]).length = m + 1 ∧ (∀ y ∈ row ++ [x], 0 ≤ y ∧ y < 256 ^ wid) ∧ allV (rdV zs wid) (rdS zs wid) n ss = (row ++ [x]) ++ allV (rdV zs wid) (rdS zs wid) (n - (m + 1)) sy ∧ allS (rdS zs wid) n ss = allS (rdS zs wid) (n - (m + 1)) sy := by
  obtain ⟨h1, h2, h3, h4⟩ := h
  obtain ⟨rfl, rfl⟩ := hx
  have e : n - m = (n - (m + 1)) + 1 := by omega
  rw [e] at h3 h4
  refine ⟨by simp [h1], fun y hy => ?_, by rw [h3, allV, List.append_assoc]; rfl, by rw [h4, allS]⟩
  rcases List.mem_append.1 hy with hy | hy
  · exact h2 y hy
  · simp at hy; subst hy; exact hb
set_option maxHeartbeats 16000000 in
theorem readObject_any (b g : Nat) (zs : List Int) (s0 : St) (W : World) (h : RSt W b g zs s0) :
    Calls Try.prog 22 #[.pointer (some ⟨b, 0, none⟩)] W fun e W' => ∃ (k w s c st wri : Int) (ini rds : List Int) (ia : Option Addr) (ic : Nat) (ra : Option Addr) (rc : Nat), e = .returned (.agg #[.int .i64 k, .int .i64 w, .int .i64 s, .int .i64 c, .int .u32 st, (.slice ia ini.length ic), .int .i64 wri, (.slice ra rds.length rc)]) ∧ (obA zs s0 = ⟨k, w, s, c, st, wri, ini, rds⟩ ∧ fit4 st ∧ (∀ x ∈ ini, fit4 x) ∧ ini.length ≤ 255 ∧ rds.length ≤ 255) ∧ OwnW W' W.heap.size (.slice ia ini.length ic) ini ∧ OwnN W' W.heap.size (.slice ra rds.length rc) rds ∧ RSt W' b g zs (obAS zs s0) ∧ Chg [b] W W' := by
  obtain ⟨i0, hi, hz0, hz1, hz2⟩ := info_parts infoI
  have HI1 : Hid (Try.prog.info? 3 = some i0 ∧ i0.zero = some (.int .i64 0) ∧ i0.size = 1 ∧ i0.bytes = 8) := Lib.hid ⟨hi, hz0, hz1, hz2⟩
  obtain ⟨j0, hi', hz0', hz1', hz2'⟩ := info_parts info32
  have HI2 : Hid (Try.prog.info? 49 = some j0 ∧ j0.zero = some (.int .u32 0) ∧ j0.size = 1 ∧ j0.bytes = 4) := Lib.hid ⟨hi', hz0', hz1', hz2'⟩
  have HCA : Hid (Chg [b] W (W.alloc (.cells #[.int .i64 0, .int .i64 0, .int .i64 0, .int .i64 0, .int .u32 0, .slice none 0 0, .int .i64 0, .slice none 0 0] 53))) := Lib.hid ((Chg.refl _ _).alloc _)
  have HR0 : Hid (RSt (W.alloc (.cells #[.int .i64 0, .int .i64 0, .int .i64 0, .int .i64 0, .int .u32 0, .slice none 0 0, .int .i64 0, .slice none 0 0] 53)) b g zs s0) := Lib.hid (h.keep (L := []) ((Chg.refl _ _).alloc _) (by simp) (by simp))
  have HC0 : Hid (Chg [b] (W.alloc (.cells #[.int .i64 0, .int .i64 0, .int .i64 0, .int .i64 0, .int .u32 0, .slice none 0 0, .int .i64 0, .slice none 0 0] 53)) (W.alloc (.cells #[.int .i64 0, .int .i64 0, .int .i64 0, .int .i64 0, .int .u32 0, .slice none 0 0, .int .i64 0, .slice none 0 0] 53))) := Lib.hid (Chg.refl _ _)
  have HBR : Hid (Blk (W.alloc (.cells #[.int .i64 0, .int .i64 0, .int .i64 0, .int .i64 0, .int .u32 0, .slice none 0 0, .int .i64 0, .slice none 0 0] 53)) W.heap.size #[.int .i64 0, .int .i64 0, .int .i64 0, .int .i64 0, .int .u32 0, .slice none 0 0, .int .i64 0, .slice none 0 0] 53) := Lib.hid (Blk.new W _ _)
  have HBL : Hid (b < W.heap.size ∧ g < W.heap.size) := Lib.hid ⟨h.box.lt, h.bytes.lt⟩
  clear hi hz0 hz1 hz2 hi' hz0' hz1' hz2' h
  go_enter Try.func22, Try.ntmps22
  go_wp2_with (first | (go_at_call 19; (with_reducible refine (U8_st b g zs _ _ HR0.out).mono ?_); rintro e w1 ⟨k, s1, rfl, HX1, hr, hc⟩; have HR1 := Lib.hid hr; have HC1 := Lib.hid (HC0.out.trans hc); clear hr hc) | (go_at_call 19; (with_reducible refine (U8_st b g zs _ _ HR1.out).mono ?_); rintro e w2 ⟨w, s2, rfl, HX2, hr, hc⟩; have HR2 := Lib.hid hr; have HC2 := Lib.hid (HC1.out.trans hc); clear hr hc) | (go_at_call 19; (with_reducible refine (U8_st b g zs _ _ HR2.out).mono ?_); rintro e w3 ⟨s, s3, rfl, HX3, hr, hc⟩; have HR3 := Lib.hid hr; have HC3 := Lib.hid (HC2.out.trans hc); clear hr hc) | (go_at_call 19; (with_reducible refine (U8_st b g zs _ _ HR3.out).mono ?_); rintro e w4 ⟨c, s4, rfl, HX4, hr, hc⟩; have HR4 := Lib.hid hr; have HC4 := Lib.hid (HC3.out.trans hc); clear hr hc) | (go_at_call 40; (with_reducible refine (U32_st b g zs _ _ HR4.out).mono ?_); rintro e w5 ⟨st, s5, rfl, HX5, hr, hc⟩; have HR5 := Lib.hid hr; have HC5 := Lib.hid (HC4.out.trans hc); clear hr hc) | (go_at_call 19; (with_reducible refine (U8_st b g zs _ _ HR5.out).mono ?_); rintro e w6 ⟨wri, s6, rfl, HX6, hr, hc⟩; have HR6 := Lib.hid hr; have HC6 := Lib.hid (HC5.out.trans hc); have HR6b := Lib.hid (HR6.out.keep (L := []) ((Chg.refl [] w6).alloc (.cells #[.int .i64 k, .int .i64 w, .int .i64 s, .int .i64 c, .int .u32 st, (.slice none 0 0), .int .i64 wri, (.slice none 0 0)] 53)) (by simp) (by simp)); have HC6b := Lib.hid (HC6.out.alloc (.cells #[.int .i64 k, .int .i64 w, .int .i64 s, .int .i64 c, .int .u32 st, (.slice none 0 0), .int .i64 wri, (.slice none 0 0)] 53)); clear hr hc) | (go_at_call 19; (with_reducible refine (U8_st b g zs _ _ HR6b.out).mono ?_); rintro e w7 ⟨x7, s7, rfl, HX7, hr, hc⟩; have HR7 := Lib.hid hr; have HC7 := Lib.hid (HC6b.out.trans hc); have HC67 := Lib.hid hc; (obtain ⟨n1, rfl⟩ : ∃ n : Nat, x7 = (n : Int) := ⟨x7.toNat, (by have := HX7.out; omega)⟩); clear hr hc))
  have HBT7 : Hid (Blk w7 w6.heap.size #[.int .i64 k, .int .i64 w, .int .i64 s, .int .i64 c, .int .u32 st, (.slice none 0 0), .int .i64 wri, (.slice none 0 0)] 53) := Lib.hid ((Blk.new w6 _ _).keep HC67.out (by have h1 := HBL.out; have h2 := HC6.out.size; simp at h2 ⊢; omega))
  have HNB : Hid (n1 ≤ 255) := Lib.hid (by have := HX7.out; omega)
  have HNE : Hid (w6.heap.size ≠ b ∧ w6.heap.size ≠ g ∧ b < w7.heap.size ∧ g < w7.heap.size ∧ w6.heap.size < w7.heap.size) := Lib.hid (by have h1 := HBL.out; have h2 := HC6.out.size; have h3 := HR7.out.box.lt; have h4 := HR7.out.bytes.lt; have h5 := HBT7.out.lt; simp at h2; omega)
  go_loopw [19] (fun i wr => ∃ (m : Nat) (sx : St) (rds : List Int) (ra_ : Option Addr) (rc_ : Nat), m ≤ n1 ∧ i = .int .i64 m ∧ Hid (rds.length = m ∧ (∀ x ∈ rds, 0 ≤ x ∧ x < 256 ^ 1) ∧ allV (rdV zs 1) (rdS zs 1) n1 s7 = rds ++ allV (rdV zs 1) (rdS zs 1) (n1 - m) sx ∧ allS (rdS zs 1) n1 s7 = allS (rdS zs 1) (n1 - m) sx) ∧ Hid (Blk wr w6.heap.size #[.int .i64 k, .int .i64 w, .int .i64 s, .int .i64 c, .int .u32 st, (.slice none 0 0), .int .i64 wri, (.slice ra_ rds.length rc_)] 53) ∧ Hid (OwnN wr w7.heap.size (.slice ra_ rds.length rc_) rds) ∧ Hid (RSt wr b g zs sx) ∧ Hid (Chg [b, w6.heap.size] w7 wr)) (fun i _ => n1 - (intOf i).toNat)
  case atStart => exact ⟨0, s7, [], none, 0, Nat.zero_le _, rfl, Lib.hid ⟨rfl, by simp, by simp, by simp⟩, HBT7, Lib.hid (World.ownsRow_nil _ _ _ _), HR7, Lib.hid (Chg.refl _ _)⟩
  case round =>
    clear HBT7 HR7
    obtain ⟨m, sx, rds, ra_, rc_, hm, rfl, HLX, HBT, HOW, HRS, HJ⟩ := hrel
    obtain ⟨wo, rfl⟩ : ∃ wo : World, wo = wr := ⟨_, rfl⟩
    by_cases hlt : m < n1
    · have HLT := Lib.hid hlt
      have hmn : (m : Int) < (n1 : Int) := by omega
      have hm1000 : (m : Int) < 1000 := by have := HNB.out; omega
      have k8 : IntKind.i64.wrap ((m : Int) + 1) = (m : Int) + 1 := by rw [IntKind.wrap_i64]; omega
      have HNT : Hid (∀ y, (Value.slice ra_ rds.length rc_).ownBlock = some y → w7.heap.size ≤ y) := Lib.hid (fun y hy => (World.ownsRow.lt HOW.out y hy).1)
      have HTL : Hid (w6.heap.size ∉ (b :: (Value.slice ra_ rds.length rc_).ownBlock.toList)) := Lib.hid (by intro hh; simp only [List.mem_cons, Option.mem_toList] at hh; have h1 := HNE.out; rcases hh with hh | hh; exact h1.1 hh; have h2 := HNT.out _ hh; omega)
      have eF := HBT.out.cell (o := 7) rfl
      have KEEP := Lib.hid (fun (V : World) (h : Chg (b :: (Value.slice ra_ rds.length rc_).ownBlock.toList) wo V) => (⟨h.keep eF HTL.out, Lib.hid h⟩ : (fun V : World => V.cell? ⟨w6.heap.size, 7, none⟩ = some (.slice ra_ rds.length rc_) ∧ Hid (Chg (b :: (Value.slice ra_ rds.length rc_).ownBlock.toList) wo V)) V))
      clear eF hm hlt
      go_upto_region 4 with fail
      have HD : Hid (Chg [b] wo wo.drew) := Lib.hid (Chg.refl _ _).drew
      have hHeld : (fun V : World => V.cell? ⟨w6.heap.size, 7, none⟩ = some (.slice ra_ rds.length rc_) ∧ Hid (Chg (b :: (Value.slice ra_ rds.length rc_).ownBlock.toList) wo V)) wo.drew := KEEP.out _ (HD.out.mono (by simp))
      refine wp_region_planT (fun V : World => V.cell? ⟨w6.heap.size, 7, none⟩ = some (.slice ra_ rds.length rc_) ∧ Hid (Chg (b :: (Value.slice ra_ rds.length rc_).ownBlock.toList) wo V)) 7 [(0, true, some 21), (1, true, some 22), (2, true, some 23), (3, false, some 24), (4, false, some 25), (5, false, some 26), (6, true, some 27)] (by kernel_rfl) (by kernel_rfl) (by kernel_rfl) (by kernel_rfl) (by kernel_rfl) (fun d c a v w h => by cases d <;> exact h) hHeld ?_
      clear hHeld
      (repeat (refine planT_read (v := ?_) rfl rfl ?_ ?_ ?_; rotate_left; (focus rfl); (focus (intro u hSw; (try dsimp only at hSw); go_simp; (try with_reducible rfl); done)); ((try dsimp only); (try simp only [Act.put, List.setIfInBounds_toArray, List.set_cons_zero, List.set_cons_succ]))))
      refine planT_do rfl rfl ?_ (fun K hK => ?_)
      · rfl
      go_simp
      go_wp2_with (go_at_call 19; refine (U8_st b g zs sx wo.drew (HRS.out.keep (L := []) (Chg.refl _ _).drew (by simp) (by simp))).mono ?_; rintro e wa ⟨x, sy, rfl, HX, hr, hc⟩; have HRY := Lib.hid hr; have HCY : Hid (Chg [b] wo wa) := Lib.hid (HD.out.trans hc); clear hr hc)
      refine hK.out _ _ (KEEP.out _ (HCY.out.mono (by simp))) (fun _ => ?_)
      clear hK K
      ((try dsimp only); (try simp only [Act.put, List.setIfInBounds_toArray, List.set_cons_zero, List.set_cons_succ]))
      refine planT_do rfl rfl ?_ (fun K hK => ?_)
      · rfl
      go_simp
      refine hK.out _ _ (KEEP.out _ ((HCY.out.alloc _).mono (by simp))) (fun _ => ?_)
      clear hK K
      ((try dsimp only); (try simp only [Act.put, List.setIfInBounds_toArray, List.set_cons_zero, List.set_cons_succ]))
      refine planT_do rfl rfl ?_ (fun K hK => ?_)
      · rfl
      have HOY : Hid (OwnN (wa.alloc (.cells #[.int .i64 x] 3)) w7.heap.size (.slice ra_ rds.length rc_) rds) := Lib.hid (mem.own_chg HOW.out (HCY.out.alloc _) (fun y hy => by have := HNT.out y hy; have := HNE.out; simp; omega))
      have HBS : Hid (w7.heap.size ≤ (wa.alloc (.cells #[.int .i64 x] 3)).heap.size) := Lib.hid (Nat.le_trans HJ.out.size (HCY.out.alloc _).size)
      have HLB : Hid (rds.length ≤ 1000) := Lib.hid (by have := HLX.out.1; have := HNB.out; have := HLT.out; omega)
      refine wp_append_any (o := ⟨some 26, _, _, _, _, _⟩) _ (.tmp 22) (.tmp 25) 51 rfl w7.heap.size 3 _ (.int .i64 0) 1 8 Try.underlying51 HI1.out.1 HI1.out.2.1 HI1.out.2.2.1 HI1.out.2.2.2 rfl (by decide) _ _ _ rfl HOY.out _ 1 [.int .i64 x] rfl (reads_one wa _ _) (by intro u hu; simp at hu; subst hu; rfl) (by have := HLB.out; unfold maxLen; omega) (by have := HLB.out; omega) HBS.out ?_
      intro v5 w5 ho5 hg5
      have HO5 : Hid (OwnN w5 w7.heap.size v5 (rds ++ [x])) := Lib.hid (OwnN.add ho5)
      have HC5 : Hid (Chg [b, w6.heap.size] w7 w5) := Lib.hid (((HJ.out.into (L := [b]) HCY.out (fun y hy => .inl (by simp at hy; simp [hy]))).alloc _).grown hg5 (fun y hy => .inr (World.ownsRow.lt HOY.out y hy).1))
      have HCT : Hid (Chg (b :: (Value.slice ra_ rds.length rc_).ownBlock.toList) wo w5) := Lib.hid (((HCY.out.mono (L' := (b :: (Value.slice ra_ rds.length rc_).ownBlock.toList)) (by simp)).alloc _).grown hg5 (fun y hy => .inl (List.mem_cons_of_mem _ (Option.mem_toList.2 hy))))
      have HB5 : Hid (Blk w5 w6.heap.size #[.int .i64 k, .int .i64 w, .int .i64 s, .int .i64 c, .int .u32 st, (.slice none 0 0), .int .i64 wri, (.slice ra_ rds.length rc_)] 53) := Lib.hid (HBT.out.keep HCT.out HTL.out)
      have HR5 : Hid (RSt w5 b g zs sy) := Lib.hid ((HRY.out.keep (L := []) ((Chg.refl [] wa).alloc (.cells #[.int .i64 x] 3)) (by simp) (by simp)).keep (L := (Value.slice ra_ rds.length rc_).ownBlock.toList) ((Chg.refl _ _).grown hg5 (fun y hy => .inl (Option.mem_toList.2 hy))) (by intro hh; simp only [Option.mem_toList] at hh; have h1 := HNE.out; have h2 := HNT.out _ hh; omega) (by intro hh; simp only [Option.mem_toList] at hh; have h1 := HNE.out; have h2 := HNT.out _ hh; omega))
      obtain ⟨a5, c5, rfl⟩ := own_slice HO5.out (by decide)
      clear ho5 hg5
      refine hK.out _ _ (KEEP.out _ HCT.out) (fun _ => ?_)
      clear hK K
      ((try dsimp only); (try simp only [Act.put, List.setIfInBounds_toArray, List.set_cons_zero, List.set_cons_succ]))
      (repeat (refine planT_read (v := ?_) rfl rfl ?_ ?_ ?_; rotate_left; (focus rfl); (focus (intro u hSw; (try dsimp only at hSw); go_simp; (try with_reducible rfl); done)); ((try dsimp only); (try simp only [Act.put, List.setIfInBounds_toArray, List.set_cons_zero, List.set_cons_succ]))))
      have f5 := HB5.out.free 7
      have e5 := HB5.out.cell (o := 7) rfl
      refine planT_last rfl ?_ (fun K hK => ?_)
      · rfl
      go_simp
      refine hK.out _ _ ?_
      clear hK K f5 e5 KEEP
      ((try dsimp only); (try simp only [Act.put, List.setIfInBounds_toArray, List.set_cons_zero, List.set_cons_succ]))
      have HB6 : Hid (Blk (w5.setCell ⟨w6.heap.size, 7, none⟩ (.slice a5 (rds.length + 1) c5)) w6.heap.size #[.int .i64 k, .int .i64 w, .int .i64 s, .int .i64 c, .int .u32 st, (.slice none 0 0), .int .i64 wri, (.slice a5 (rds ++ [x]).length c5)] 53) := Lib.hid (by have h9 := HB5.out.set 7 (.slice a5 (rds.length + 1) c5); simp only [List.setIfInBounds_toArray, List.set_cons_zero, List.set_cons_succ] at h9; rw [show (rds ++ [x]).length = rds.length + 1 by simp]; exact h9)
      have HC6 : Hid (Chg [w6.heap.size] w5 (w5.setCell ⟨w6.heap.size, 7, none⟩ (.slice a5 (rds.length + 1) c5))) := Lib.hid ((Chg.refl _ _).setCell (.inl (by simp)) _)
      have HO6 := Lib.hid (mem.own_chg HO5.out HC6.out (fun y hy => by have h8 := (World.ownsRow.lt HO5.out y hy).1; have h7 := HNE.out; simp; omega))
      have HR6 := Lib.hid (HR5.out.keep HC6.out (by simp; exact fun h => HNE.out.1 h.symm) (by simp; exact fun h => HNE.out.2.1 h.symm))
      have HC7 := Lib.hid (HC5.out.into HC6.out (fun y hy => .inl (by simp at hy; simp [hy])))
      go_wp2_with fail
      have hltj := HLT.out
      go_roundw
      case rel => exact ⟨m + 1, sy, rds ++ [x], a5, c5, by omega, by go_num, Lib.hid (all_next HLX.out HX.out.1 (by have := HX.out.2; omega) HLT.out), HB6, HO6, HR6, HC7⟩
      case measure => simp [intOf]; omega
    · obtain rfl : n1 = m := by omega
      clear hlt hm
      have HLR : Hid (rds.length = n1 ∧ (∀ x ∈ rds, 0 ≤ x ∧ x < 256 ^ 1) ∧ allV (rdV zs 1) (rdS zs 1) n1 s7 = rds ∧ allS (rdS zs 1) n1 s7 = sx) := Lib.hid (by have h9 := HLX.out; rw [Nat.sub_self] at h9; exact ⟨h9.1, h9.2.1, by rw [h9.2.2.1]; simp [allV], by rw [h9.2.2.2]; rfl⟩)
      have HC8a : Hid (Chg [b] (W.alloc (.cells #[.int .i64 0, .int .i64 0, .int .i64 0, .int .i64 0, .int .u32 0, .slice none 0 0, .int .i64 0, .slice none 0 0] 53)) wo) := Lib.hid (HC7.out.into HJ.out (fun y hy => by simp at hy; rcases hy with rfl | rfl; exact .inl (by simp); right; have := HC6.out.size; simp at this ⊢; omega))
      obtain ⟨wp, rfl⟩ : ∃ wp : World, wp = wo := ⟨_, rfl⟩
      obtain ⟨su, rfl⟩ : ∃ su : St, su = sx := ⟨_, rfl⟩
      obtain ⟨ua, uc, hua, huc⟩ : ∃ ua uc, ua = ra_ ∧ uc = rc_ := ⟨_, _, rfl, rfl⟩
      rw [← hua, ← huc] at HBT HOW
      obtain ⟨nb1, hnb1⟩ : ∃ q, q = w7.heap.size := ⟨_, rfl⟩
      have HNE1 : Hid (w6.heap.size ≠ b ∧ w6.heap.size ≠ g ∧ b < nb1 ∧ g < nb1 ∧ w6.heap.size < nb1) := Lib.hid (by rw [hnb1]; exact HNE.out)
      rw [← hnb1] at HOW
      clear HNB HNE HLX hua huc hnb1
      go_wp2_with (go_at_call 19; (refine (U8_st b g zs _ _ HRS.out).mono ?_); rintro e w8 ⟨x8, s8, rfl, HX8, hr, hc⟩; have HR8 := Lib.hid hr; have HC8 := Lib.hid hc; (obtain ⟨n2, rfl⟩ : ∃ n : Nat, x8 = (n : Int) := ⟨x8.toNat, (by have := HX8.out; omega)⟩); clear hr hc)
      have HBT8 : Hid (Blk w8 w6.heap.size #[.int .i64 k, .int .i64 w, .int .i64 s, .int .i64 c, .int .u32 st, (.slice none 0 0), .int .i64 wri, (.slice ua rds.length uc)] 53) := Lib.hid (HBT.out.keep HC8.out (by simp; exact HNE1.out.1))
      have HNB : Hid (n2 ≤ 255) := Lib.hid (by have := HX8.out; omega)
      have HNE : Hid (w6.heap.size ≠ b ∧ w6.heap.size ≠ g ∧ b < w8.heap.size ∧ g < w8.heap.size ∧ w6.heap.size < w8.heap.size) := Lib.hid ⟨HNE1.out.1, HNE1.out.2.1, HR8.out.box.lt, HR8.out.bytes.lt, HBT8.out.lt⟩
      have HOR8 : Hid (OwnN w8 nb1 (.slice ua rds.length uc) rds) := Lib.hid (mem.own_chg HOW.out HC8.out (fun y hy => by have h1 := (World.ownsRow.lt HOW.out y hy).1; have h2 := HNE1.out; simp; omega))
      have HNBB : Hid (W.heap.size ≤ nb1) := Lib.hid (by have h1 := HNE1.out; have h2 := HC6.out.size; simp at h2; omega)
      have HC8b : Hid (Chg [b] (W.alloc (.cells #[.int .i64 0, .int .i64 0, .int .i64 0, .int .i64 0, .int .u32 0, .slice none 0 0, .int .i64 0, .slice none 0 0] 53)) w8) := Lib.hid (HC8a.out.trans HC8.out)
      clear HBT HOW HRS HJ HC8a
      go_loopw [31] (fun i wr => ∃ (m : Nat) (sx : St) (ini : List Int) (ra_ : Option Addr) (rc_ : Nat), m ≤ n2 ∧ i = .int .i64 m ∧ Hid (ini.length = m ∧ (∀ x ∈ ini, 0 ≤ x ∧ x < 256 ^ 4) ∧ allV (rdV zs 4) (rdS zs 4) n2 s8 = ini ++ allV (rdV zs 4) (rdS zs 4) (n2 - m) sx ∧ allS (rdS zs 4) n2 s8 = allS (rdS zs 4) (n2 - m) sx) ∧ Hid (Blk wr w6.heap.size #[.int .i64 k, .int .i64 w, .int .i64 s, .int .i64 c, .int .u32 st, (.slice ra_ ini.length rc_), .int .i64 wri, (.slice ua rds.length uc)] 53) ∧ Hid (OwnW wr w8.heap.size (.slice ra_ ini.length rc_) ini) ∧ Hid (RSt wr b g zs sx) ∧ Hid (Chg [b, w6.heap.size] w8 wr)) (fun i _ => n2 - (intOf i).toNat)
      case atStart => exact ⟨0, s8, [], none, 0, Nat.zero_le _, rfl, Lib.hid ⟨rfl, by simp, by simp, by simp⟩, HBT8, Lib.hid (World.ownsRow_nil _ _ _ _), HR8, Lib.hid (Chg.refl _ _)⟩
      case round =>
        clear HBT8 HR8
        obtain ⟨m, sx, ini, ra_, rc_, hm, rfl, HLX, HBT, HOW, HRS, HJ⟩ := hrel
        obtain ⟨wo, rfl⟩ : ∃ wo : World, wo = wr := ⟨_, rfl⟩
        by_cases hlt : m < n2
        · have HLT := Lib.hid hlt
          have hmn : (m : Int) < (n2 : Int) := by omega
          have hm1000 : (m : Int) < 1000 := by have := HNB.out; omega
          have k8 : IntKind.i64.wrap ((m : Int) + 1) = (m : Int) + 1 := by rw [IntKind.wrap_i64]; omega
          have HNT : Hid (∀ y, (Value.slice ra_ ini.length rc_).ownBlock = some y → w8.heap.size ≤ y) := Lib.hid (fun y hy => (World.ownsRow.lt HOW.out y hy).1)
          have HTL : Hid (w6.heap.size ∉ (b :: (Value.slice ra_ ini.length rc_).ownBlock.toList)) := Lib.hid (by intro hh; simp only [List.mem_cons, Option.mem_toList] at hh; have h1 := HNE.out; rcases hh with hh | hh; exact h1.1 hh; have h2 := HNT.out _ hh; omega)
          have eF := HBT.out.cell (o := 5) rfl
          have KEEP := Lib.hid (fun (V : World) (h : Chg (b :: (Value.slice ra_ ini.length rc_).ownBlock.toList) wo V) => (⟨h.keep eF HTL.out, Lib.hid h⟩ : (fun V : World => V.cell? ⟨w6.heap.size, 5, none⟩ = some (.slice ra_ ini.length rc_) ∧ Hid (Chg (b :: (Value.slice ra_ ini.length rc_).ownBlock.toList) wo V)) V))
          clear eF hm hlt
          go_upto_region 8 with fail
          have HD : Hid (Chg [b] wo wo.drew) := Lib.hid (Chg.refl _ _).drew
          have hHeld : (fun V : World => V.cell? ⟨w6.heap.size, 5, none⟩ = some (.slice ra_ ini.length rc_) ∧ Hid (Chg (b :: (Value.slice ra_ ini.length rc_).ownBlock.toList) wo V)) wo.drew := KEEP.out _ (HD.out.mono (by simp))
          refine wp_region_planT (fun V : World => V.cell? ⟨w6.heap.size, 5, none⟩ = some (.slice ra_ ini.length rc_) ∧ Hid (Chg (b :: (Value.slice ra_ ini.length rc_).ownBlock.toList) wo V)) 7 [(0, true, some 33), (1, true, some 34), (2, true, some 35), (3, false, some 36), (4, false, some 37), (5, false, some 38), (6, true, some 39)] (by kernel_rfl) (by kernel_rfl) (by kernel_rfl) (by kernel_rfl) (by kernel_rfl) (fun d c a v w h => by cases d <;> exact h) hHeld ?_
          clear hHeld
          (repeat (refine planT_read (v := ?_) rfl rfl ?_ ?_ ?_; rotate_left; (focus rfl); (focus (intro u hSw; (try dsimp only at hSw); go_simp; (try with_reducible rfl); done)); ((try dsimp only); (try simp only [Act.put, List.setIfInBounds_toArray, List.set_cons_zero, List.set_cons_succ]))))
          refine planT_do rfl rfl ?_ (fun K hK => ?_)
          · rfl
          go_simp
          go_wp2_with (go_at_call 40; refine (U32_st b g zs sx wo.drew (HRS.out.keep (L := []) (Chg.refl _ _).drew (by simp) (by simp))).mono ?_; rintro e wa ⟨x, sy, rfl, HX, hr, hc⟩; have HRY := Lib.hid hr; have HCY : Hid (Chg [b] wo wa) := Lib.hid (HD.out.trans hc); clear hr hc)
          refine hK.out _ _ (KEEP.out _ (HCY.out.mono (by simp))) (fun _ => ?_)
          clear hK K
          ((try dsimp only); (try simp only [Act.put, List.setIfInBounds_toArray, List.set_cons_zero, List.set_cons_succ]))
          refine planT_do rfl rfl ?_ (fun K hK => ?_)
          · rfl
          go_simp
          refine hK.out _ _ (KEEP.out _ ((HCY.out.alloc _).mono (by simp))) (fun _ => ?_)
          clear hK K
          ((try dsimp only); (try simp only [Act.put, List.setIfInBounds_toArray, List.set_cons_zero, List.set_cons_succ]))
          refine planT_do rfl rfl ?_ (fun K hK => ?_)
          · rfl
          have HOY : Hid (OwnW (wa.alloc (.cells #[.int .u32 x] 49)) w8.heap.size (.slice ra_ ini.length rc_) ini) := Lib.hid (mem.own_chg HOW.out (HCY.out.alloc _) (fun y hy => by have := HNT.out y hy; have := HNE.out; simp; omega))
          have HBS : Hid (w8.heap.size ≤ (wa.alloc (.cells #[.int .u32 x] 49)).heap.size) := Lib.hid (Nat.le_trans HJ.out.size (HCY.out.alloc _).size)
          have HLB : Hid (ini.length ≤ 1000) := Lib.hid (by have := HLX.out.1; have := HNB.out; have := HLT.out; omega)
          refine wp_append_any (o := ⟨some 38, _, _, _, _, _⟩) _ (.tmp 34) (.tmp 37) 50 rfl w8.heap.size 49 _ (.int .u32 0) 1 4 Try.underlying50 HI2.out.1 HI2.out.2.1 HI2.out.2.2.1 HI2.out.2.2.2 rfl (by decide) _ _ _ rfl HOY.out _ 1 [.int .u32 x] rfl (reads_one wa _ _) (by intro u hu; simp at hu; subst hu; rfl) (by have := HLB.out; unfold maxLen; omega) (by have := HLB.out; omega) HBS.out ?_
          intro v5 w5 ho5 hg5
          have HO5 : Hid (OwnW w5 w8.heap.size v5 (ini ++ [x])) := Lib.hid (OwnW.add ho5)
          have HC5 : Hid (Chg [b, w6.heap.size] w8 w5) := Lib.hid (((HJ.out.into (L := [b]) HCY.out (fun y hy => .inl (by simp at hy; simp [hy]))).alloc _).grown hg5 (fun y hy => .inr (World.ownsRow.lt HOY.out y hy).1))
          have HCT : Hid (Chg (b :: (Value.slice ra_ ini.length rc_).ownBlock.toList) wo w5) := Lib.hid (((HCY.out.mono (L' := (b :: (Value.slice ra_ ini.length rc_).ownBlock.toList)) (by simp)).alloc _).grown hg5 (fun y hy => .inl (List.mem_cons_of_mem _ (Option.mem_toList.2 hy))))
          have HB5 : Hid (Blk w5 w6.heap.size #[.int .i64 k, .int .i64 w, .int .i64 s, .int .i64 c, .int .u32 st, (.slice ra_ ini.length rc_), .int .i64 wri, (.slice ua rds.length uc)] 53) := Lib.hid (HBT.out.keep HCT.out HTL.out)
          have HR5 : Hid (RSt w5 b g zs sy) := Lib.hid ((HRY.out.keep (L := []) ((Chg.refl [] wa).alloc (.cells #[.int .u32 x] 49)) (by simp) (by simp)).keep (L := (Value.slice ra_ ini.length rc_).ownBlock.toList) ((Chg.refl _ _).grown hg5 (fun y hy => .inl (Option.mem_toList.2 hy))) (by intro hh; simp only [Option.mem_toList] at hh; have h1 := HNE.out; have h2 := HNT.out _ hh; omega) (by intro hh; simp only [Option.mem_toList] at hh; have h1 := HNE.out; have h2 := HNT.out _ hh; omega))
          obtain ⟨a5, c5, rfl⟩ := own_slice HO5.out (by decide)
          clear ho5 hg5
          refine hK.out _ _ (KEEP.out _ HCT.out) (fun _ => ?_)
          clear hK K
          ((try dsimp only); (try simp only [Act.put, List.setIfInBounds_toArray, List.set_cons_zero, List.set_cons_succ]))
          (repeat (refine planT_read (v := ?_) rfl rfl ?_ ?_ ?_; rotate_left; (focus rfl); (focus (intro u hSw; (try dsimp only at hSw); go_simp; (try with_reducible rfl); done)); ((try dsimp only); (try simp only [Act.put, List.setIfInBounds_toArray, List.set_cons_zero, List.set_cons_succ]))))
          have f5 := HB5.out.free 5
          have e5 := HB5.out.cell (o := 5) rfl
          refine planT_last rfl ?_ (fun K hK => ?_)
          · rfl
          go_simp
          refine hK.out _ _ ?_
          clear hK K f5 e5 KEEP
          ((try dsimp only); (try simp only [Act.put, List.setIfInBounds_toArray, List.set_cons_zero, List.set_cons_succ]))
          have HB6 : Hid (Blk (w5.setCell ⟨w6.heap.size, 5, none⟩ (.slice a5 (ini.length + 1) c5)) w6.heap.size #[.int .i64 k, .int .i64 w, .int .i64 s, .int .i64 c, .int .u32 st, (.slice a5 (ini ++ [x]).length c5), .int .i64 wri, (.slice ua rds.length uc)] 53) := Lib.hid (by have h9 := HB5.out.set 5 (.slice a5 (ini.length + 1) c5); simp only [List.setIfInBounds_toArray, List.set_cons_zero, List.set_cons_succ] at h9; rw [show (ini ++ [x]).length = ini.length + 1 by simp]; exact h9)
          have HC6 : Hid (Chg [w6.heap.size] w5 (w5.setCell ⟨w6.heap.size, 5, none⟩ (.slice a5 (ini.length + 1) c5))) := Lib.hid ((Chg.refl _ _).setCell (.inl (by simp)) _)
          have HO6 := Lib.hid (mem.own_chg HO5.out HC6.out (fun y hy => by have h8 := (World.ownsRow.lt HO5.out y hy).1; have h7 := HNE.out; simp; omega))
          have HR6 := Lib.hid (HR5.out.keep HC6.out (by simp; exact fun h => HNE.out.1 h.symm) (by simp; exact fun h => HNE.out.2.1 h.symm))
          have HC7 := Lib.hid (HC5.out.into HC6.out (fun y hy => .inl (by simp at hy; simp [hy])))
          go_wp2_with fail
          have hltj := HLT.out
          go_roundw
          case rel => exact ⟨m + 1, sy, ini ++ [x], a5, c5, by omega, by go_num, Lib.hid (all_next HLX.out HX.out.1 (by have := HX.out.2; omega) HLT.out), HB6, HO6, HR6, HC7⟩
          case measure => simp [intOf]; omega
        · obtain rfl : n2 = m := by omega
          clear hlt hm
          have HLI : Hid (ini.length = n2 ∧ (∀ x ∈ ini, 0 ≤ x ∧ x < 256 ^ 4) ∧ allV (rdV zs 4) (rdS zs 4) n2 s8 = ini ∧ allS (rdS zs 4) n2 s8 = sx) := Lib.hid (by have h9 := HLX.out; rw [Nat.sub_self] at h9; exact ⟨h9.1, h9.2.1, by rw [h9.2.2.1]; simp [allV], by rw [h9.2.2.2]; rfl⟩)
          have HORF : Hid (OwnN wo nb1 (.slice ua rds.length uc) rds) := Lib.hid (mem.own_chg HOR8.out HJ.out (fun y hy => by have h1 := (World.ownsRow.lt HOR8.out y hy).1; have h2 := HNE1.out; simp; omega))
          have HCF : Hid (Chg [b] (W.alloc (.cells #[.int .i64 0, .int .i64 0, .int .i64 0, .int .i64 0, .int .u32 0, .slice none 0 0, .int .i64 0, .slice none 0 0] 53)) wo) := Lib.hid (HC8b.out.into HJ.out (fun y hy => by simp at hy; rcases hy with rfl | rfl; exact .inl (by simp); right; have := HC6.out.size; simp at this ⊢; omega))
          have HBRF : Hid (Blk wo W.heap.size #[.int .i64 0, .int .i64 0, .int .i64 0, .int .i64 0, .int .u32 0, .slice none 0 0, .int .i64 0, .slice none 0 0] 53) := Lib.hid (HBR.out.keep HCF.out (by have := HBL.out; simp; omega))
          clear HLX
          go_wp2_with (first | (refine wpList_load_blk rfl 53 (.tmp 3) rfl w6.heap.size rfl HBT.out _ Try.underlying53 rfl szObject ?_) | (refine wpList_store_blk rfl 53 (.tmp 2) (.tmp 41) rfl W.heap.size #[.int .i64 k, .int .i64 w, .int .i64 s, .int .i64 c, .int .u32 st, (.slice ra_ ini.length rc_), .int .i64 wri, (.slice ua rds.length uc)] rfl rfl HBRF.out szObject rfl (by simp [Value.oneCell']) ?_; intro w9 hb9 hc9; have HB9 := Lib.hid hb9; have HC9 := Lib.hid hc9; clear hb9 hc9))
          refine bodyPost_ret (results_cell_row rfl _ _ W.heap.size 53 #[.int .i64 k, .int .i64 w, .int .i64 s, .int .i64 c, .int .u32 st, (.slice ra_ ini.length rc_), .int .i64 wri, (.slice ua rds.length uc)] (0, 0) _ rfl HB9.out Try.underlying53 rfl szObject) rfl ?_
          refine ⟨k, w, s, c, st, wri, ini, rds, ra_, rc_, ua, uc, rfl, ⟨?_, ?_, ?_, ?_, ?_⟩, ?_, ?_, ?_, ?_⟩
          · obtain ⟨⟨rfl, rfl⟩, -⟩ := HX1.out
            obtain ⟨⟨rfl, rfl⟩, -⟩ := HX2.out
            obtain ⟨⟨rfl, rfl⟩, -⟩ := HX3.out
            obtain ⟨⟨rfl, rfl⟩, -⟩ := HX4.out
            obtain ⟨⟨rfl, rfl⟩, -⟩ := HX5.out
            obtain ⟨⟨rfl, rfl⟩, -⟩ := HX6.out
            obtain ⟨⟨e7, rfl⟩, -⟩ := HX7.out
            obtain ⟨⟨e8, rfl⟩, -⟩ := HX8.out
            have h7 := HLR.out
            have h8 := HLI.out
            unfold obA hd6
            dsimp only
            rw [← e7, Int.toNat_natCast, h7.2.2.1, h7.2.2.2, ← e8, Int.toNat_natCast, h8.2.2.1]
          · exact HX5.out.2
          · intro x hx; have h9 := HLI.out.2.1 x hx; unfold fit4; omega
          · have h1 := HLI.out.1; have h2 := HNB.out; omega
          · have h1 := HLR.out.1; have h2 := HX7.out; omega
          · exact mem.own_base (mem.own_chg HOW.out HC9.out (fun y hy => by have h1 := (World.ownsRow.lt HOW.out y hy).1; have h2 := HC8b.out.size; have h3 := HNE.out; have h4 := HCA.out.size; have h5 := HC6.out.size; simp at *; omega)) (by have h2 := HC8b.out.size; simp at h2; omega)
          · exact mem.own_base (mem.own_chg HORF.out HC9.out (fun y hy => by have h1 := (World.ownsRow.lt HORF.out y hy).1; have h2 := HNE1.out; have h5 := HC6.out.size; simp at *; omega)) HNBB.out
          · obtain ⟨⟨rfl, rfl⟩, -⟩ := HX1.out
            obtain ⟨⟨rfl, rfl⟩, -⟩ := HX2.out
            obtain ⟨⟨rfl, rfl⟩, -⟩ := HX3.out
            obtain ⟨⟨rfl, rfl⟩, -⟩ := HX4.out
            obtain ⟨⟨rfl, rfl⟩, -⟩ := HX5.out
            obtain ⟨⟨rfl, rfl⟩, -⟩ := HX6.out
            obtain ⟨⟨e7, rfl⟩, -⟩ := HX7.out
            obtain ⟨⟨e8, rfl⟩, -⟩ := HX8.out
            have h7 := HLR.out
            have h8 := HLI.out
            have hst : obAS zs s0 = sx := by
              unfold obAS hd6
              dsimp only
              rw [← e7, Int.toNat_natCast, h7.2.2.2, ← e8, Int.toNat_natCast, h8.2.2.2]
            rw [hst]
            exact HRS.out.keep HC9.out (by have := HBL.out; simp; omega) (by have := HBL.out; simp; omega)
          · exact (HCA.out.trans HCF.out).into HC9.out (fun y hy => .inr (by simp at hy; omega))
end Go.Proofs.Ytkmalnojkjmjiaa.img
