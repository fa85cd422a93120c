/-
  coxswainlaw02.CodecReads returns true for every b and l: whatever is asked of a reader of any bytes, it tells what the document says. No conditions.
-/
import Derived.Test.YtkhbmgkofhdkmaaRows
import Derived.WalkKit
import Derived.ProofKit
import Derived.OpenShut
import Derived.ShutString
import Derived.ChangeOld
import Derived.Below
import Derived.Test.YtkhbmgkofhdkmaaOpen
import Derived.Test.YtkhbmgkofhdkmaaCodecW7
import Derived.Deep.RegionWith
namespace Go.Proofs.Ytkhbmgkofhdkmaa.codecReads
open Go.ChangeShapes Go.WideShapes Go.ChangeAt Go.RowKit
open Go.ChangeMaps (open_string shut_string)
set_option linter.unusedVariables false
open Go.Proofs.Ytkhbmgkofhdkmaa.kit Go.Proofs.Ytkhbmgkofhdkmaa.codec
theorem cells47 : Try.prog.cellsOf 47 = 2 := by kernel_rfl
theorem cells5 : Try.prog.cellsOf 5 = 1 := by kernel_rfl
theorem cells3 : Try.prog.cellsOf 3 = 1 := by kernel_rfl
def askCells (r : Int × Int) : List Value := [.int .i64 r.1, .int .i64 r.2]

theorem sz47 : (Try.prog.info? 47).map (·.size) = some 2 := by kernel_rfl
set_option maxRecDepth 100000 in
set_option maxHeartbeats 2000000 in
theorem main (a0 : Option Addr) (cap0 : Nat) (v1 : Value) (zs : List Int) (rs : List (Int × Int)) (w : World) (hr : ReadsB w (.slice a0 zs.length cap0) zs) (hz : zs.length ≤ 2000) (hl : rs.length ≤ 60)
    (hx : Reads w 2 v1 rs.length (rs.flatMap askCells)) (hrw : ∀ r ∈ rs, (Lit.int .i64 r.1).wf = true ∧ (Lit.int .i64 r.2).wf = true) :
    Calls Try.prog 7 #[.slice a0 zs.length cap0, v1] w fun e w' => e = .returned (.bool true) ∧ Below w.heap.size w w' := by
  obtain ⟨i0, hi, hz0, hz1, hz2⟩ := info_parts info5
  obtain ⟨bb, off, hix, hcell, _⟩ := reads_index (P := Try.prog) Try.underlying42 sz47 hx
  obtain ⟨a1, cap1, rfl, _⟩ := reads_slice hx
  have HX := Lib.hid hix
  have HC := Lib.hid hcell
  have HW := Lib.hid hrw
  clear hix hcell hrw hx
  go_enter Try.func7, Try.ntmps7
  go_wp2_with (first | (go_at_call 16; refine (New_any _ _ _ hr (by omega)).mono ?_; rintro e w1 ⟨b, g, rfl, h1, hc1, hb1, hg1⟩) | (at_builtin; refine wpList_append_any (o := ⟨some 23, _, _, _, _, _⟩) _ rfl _ _ 22 rfl w1.heap.size 5 i0 (.int .u8 0) 1 1 Try.underlying22 hi hz0 hz1 hz2 rfl (by decide) (.slice (some ⟨w1.heap.size, 0, none⟩) 0 0) 0 [] rfl (World.ownsRow_lit w1 #[] 0 (Nat.le_refl _) (Nat.zero_le _) rfl) (.slice a0 zs.length cap0) zs.length _ rfl ((hr.chg hc1).1.alloc _) (ints_oneCell _ _) (by have := hr.1.le; omega) (by omega) (by simp) ?_; intro v2 w2 hown2 hg2; simp only [Nat.zero_add, List.nil_append] at hown2; have hc2 : Chg [] w1 w2 := ((Chg.refl _ _).alloc _).grown hg2 (by simp [Value.ownBlock]); clear hg2; obtain ⟨a2, cc2, rfl, _⟩ := reads_slice (Reads.of_own hown2 (by decide))))
  have hB0 : Both (w2.alloc (.cells #[.slice a2 zs.length cc2, .bool false] 45)) b g w2.heap.size (.slice a2 zs.length cc2) zs 0 false := by
    have hbl := h1.box.lt
    have hgl := h1.bytes.lt
    have hs2 := hc2.size
    refine ⟨(h1.keep hc2 (by simp) (by simp)).keep ((Chg.refl [] _).alloc _) (by simp) (by simp), ⟨Blk.new _ _ _, ?_, ?_⟩, by omega, by omega, ?_⟩
    · have := OwnB.reads (B := w1.heap.size) (v := .slice a2 zs.length cc2) (zs := zs) hown2 hr.2
      exact (show restL zs 0 false = zs by simp [restL]) ▸ (this.chg ((Chg.refl _ _).alloc _))
    · intro k hk; have := (World.ownsRow.lt hown2 k hk).2; omega
    · intro k hk; have := (World.ownsRow.lt hown2 k hk).1; constructor <;> omega
  have kk2 : Chg [] w w2 := hc1.trans hc2
  have hC0 : Chg [] w (w2.alloc (.cells #[.slice a2 zs.length cc2, .bool false] 45)) := kk2.alloc _
  have hB2 : w.heap.size ≤ w2.heap.size := kk2.size
  generalize hWW : w2.alloc (.cells #[.slice a2 zs.length cc2, .bool false] 45) = W0 at *
  generalize w2.heap.size = b2 at *
  clear hWW hown2 h1 hc1 hc2 hg1 kk2 hi hz0 hz1 hz2
  go_loopw [8, 9, 28] (fun _ _ i wr => ∃ (k a : Nat) (bad : Bool) (sv : Value), k ≤ rs.length ∧ i = .int .i64 k ∧ Both wr b g b2 sv zs a bad ∧ Chg [] w wr) (fun _ _ i _ => rs.length - (intOf i).toNat)
  case atStart => exact ⟨0, 0, false, _, Nat.zero_le _, rfl, hB0, hC0⟩
  case round =>
    obtain ⟨k, a, bad, sv, hk, rfl, hB, hC⟩ := hrel
    clear hB0 hC0
    by_cases hlt : k < rs.length
    · have g1 := HX.out k hlt
      obtain ⟨⟨kd, nn⟩, hrk⟩ : ∃ r, rs[k]? = some r := ⟨_, List.getElem?_eq_getElem hlt⟩
      have g2 := hC.keep (HC.out (k * 2 + 0) _ (by rw [flatMap_get askCells 2 (fun _ => rfl) rs k 0 (by decide) _ hrk]; rfl)) (by simp)
      have g3 := hC.keep (HC.out (k * 2 + 1) _ (by rw [flatMap_get askCells 2 (fun _ => rfl) rs k 1 (by decide) _ hrk]; rfl)) (by simp)
      rw [Nat.add_zero] at g2
      rw [← Nat.add_assoc] at g3
      have HBo := Lib.hid hB
      have HCo := Lib.hid hC
      clear hB hC hrk
      by_cases k0 : kd = 0
      · subst k0
        obtain ⟨x, a', bad', hx0, hx1, CN, RN⟩ := step_num (HBo.out.chg ((Chg.refl [] wr).alloc (.cells #[.int .i64 0, .int .i64 nn] 47))) 1 (by decide)
        have HCN := Lib.hid CN
        have HRN := Lib.hid RN
        clear CN RN
        go_wp2_with fail
        refine (U8_of _ x _ _ hx0 hx1 HCN.out).mono ?_
        rintro e w3 ⟨rfl, hR3, hc3⟩
        go_wp2_with fail
        refine (HRN.out w3 hc3 hR3).mono ?_
        rintro e w4 ⟨sv', rfl, hB4, hc4⟩
        have hC4 : Chg [] w w4 := ((HCo.out.alloc _).into hc3 (fun y hy => by simp at hy; subst hy; exact .inr hb1)).into hc4 (fun y hy => by simp at hy; subst hy; exact .inr hB2)
        clear hc3 hc4 hR3
        go_wp2_with fail
        obtain ⟨ax, cx, hsv, _⟩ := reads_slice hB4.x.rest.1
        subst hsv
        have cb0 := hB4.x.box.cell (o := 0) (v := .slice ax (restL zs a' bad').length cx) rfl
        have cb1 := hB4.x.box.cell (o := 1) (v := .bool bad') rfl
        have HE := errI_ne bad'
        have HB4 := Lib.hid hB4
        have HC4 := Lib.hid hC4
        clear hB4 hC4
        generalize hNr : (restL zs a' bad').length = nr at *
        have HNr := Lib.hid hNr
        clear hNr
        go_quiet (first | (go_at_call 37; have hq := Left_r b g zs a' bad'; rw [HNr.out] at hq; exact quiet_at (hq _ (HB4.out.r.drewN _)) ⟨_, rfl⟩) | (go_at_call 21; have hq := Done_r b g zs a' bad'; rw [HNr.out] at hq; exact quiet_at (hq _ (HB4.out.r.drewN _)) ⟨_, rfl⟩) | (go_at_call 38; have hq := rDone_r b2 (.slice ax nr cx) (restL zs a' bad') bad'; rw [HNr.out] at hq; exact quiet_at (hq _ (HB4.out.x.drewN _)) ⟨_, rfl⟩) | (go_at_call 39; exact quiet_at (Err_r _ _ _ _ _ _ (HB4.out.r.drewN _)) ⟨_, rfl⟩))
        go_wp2
        go_roundw
        case rel => exact ⟨k + 1, a', bad', _, by omega, by go_num, HB4.out.chg ((Chg.refl _ _).drewN _), HC4.out.drewN _⟩
        case measure => simp [intOf]; omega
      by_cases k1 : kd = 1
      · subst k1
        obtain ⟨x, a', bad', hx0, hx1, CN, RN⟩ := step_num (HBo.out.chg ((Chg.refl [] wr).alloc (.cells #[.int .i64 1, .int .i64 nn] 47))) 2 (by decide)
        have HCN := Lib.hid CN
        have HRN := Lib.hid RN
        clear CN RN
        go_wp2_with fail
        refine (U16_of _ x _ _ hx0 hx1 HCN.out).mono ?_
        rintro e w3 ⟨rfl, hR3, hc3⟩
        go_wp2_with fail
        refine (HRN.out w3 hc3 hR3).mono ?_
        rintro e w4 ⟨sv', rfl, hB4, hc4⟩
        have hC4 : Chg [] w w4 := ((HCo.out.alloc _).into hc3 (fun y hy => by simp at hy; subst hy; exact .inr hb1)).into hc4 (fun y hy => by simp at hy; subst hy; exact .inr hB2)
        clear hc3 hc4 hR3
        go_wp2_with fail
        obtain ⟨ax, cx, hsv, _⟩ := reads_slice hB4.x.rest.1
        subst hsv
        have cb0 := hB4.x.box.cell (o := 0) (v := .slice ax (restL zs a' bad').length cx) rfl
        have cb1 := hB4.x.box.cell (o := 1) (v := .bool bad') rfl
        have HE := errI_ne bad'
        have HB4 := Lib.hid hB4
        have HC4 := Lib.hid hC4
        clear hB4 hC4
        generalize hNr : (restL zs a' bad').length = nr at *
        have HNr := Lib.hid hNr
        clear hNr
        go_quiet (first | (go_at_call 37; have hq := Left_r b g zs a' bad'; rw [HNr.out] at hq; exact quiet_at (hq _ (HB4.out.r.drewN _)) ⟨_, rfl⟩) | (go_at_call 21; have hq := Done_r b g zs a' bad'; rw [HNr.out] at hq; exact quiet_at (hq _ (HB4.out.r.drewN _)) ⟨_, rfl⟩) | (go_at_call 38; have hq := rDone_r b2 (.slice ax nr cx) (restL zs a' bad') bad'; rw [HNr.out] at hq; exact quiet_at (hq _ (HB4.out.x.drewN _)) ⟨_, rfl⟩) | (go_at_call 39; exact quiet_at (Err_r _ _ _ _ _ _ (HB4.out.r.drewN _)) ⟨_, rfl⟩))
        go_wp2
        go_roundw
        case rel => exact ⟨k + 1, a', bad', _, by omega, by go_num, HB4.out.chg ((Chg.refl _ _).drewN _), HC4.out.drewN _⟩
        case measure => simp [intOf]; omega
      by_cases k2 : kd = 2
      · subst k2
        obtain ⟨x, a', bad', hx0, hx1, CN, RN⟩ := step_num (HBo.out.chg ((Chg.refl [] wr).alloc (.cells #[.int .i64 2, .int .i64 nn] 47))) 4 (by decide)
        have HCN := Lib.hid CN
        have HRN := Lib.hid RN
        clear CN RN
        go_wp2_with fail
        refine (U32_of _ x _ _ hx0 hx1 HCN.out).mono ?_
        rintro e w3 ⟨rfl, hR3, hc3⟩
        go_wp2_with fail
        refine (HRN.out w3 hc3 hR3).mono ?_
        rintro e w4 ⟨sv', rfl, hB4, hc4⟩
        have hC4 : Chg [] w w4 := ((HCo.out.alloc _).into hc3 (fun y hy => by simp at hy; subst hy; exact .inr hb1)).into hc4 (fun y hy => by simp at hy; subst hy; exact .inr hB2)
        clear hc3 hc4 hR3
        go_wp2_with fail
        obtain ⟨ax, cx, hsv, _⟩ := reads_slice hB4.x.rest.1
        subst hsv
        have cb0 := hB4.x.box.cell (o := 0) (v := .slice ax (restL zs a' bad').length cx) rfl
        have cb1 := hB4.x.box.cell (o := 1) (v := .bool bad') rfl
        have HE := errI_ne bad'
        have HB4 := Lib.hid hB4
        have HC4 := Lib.hid hC4
        clear hB4 hC4
        generalize hNr : (restL zs a' bad').length = nr at *
        have HNr := Lib.hid hNr
        clear hNr
        go_quiet (first | (go_at_call 37; have hq := Left_r b g zs a' bad'; rw [HNr.out] at hq; exact quiet_at (hq _ (HB4.out.r.drewN _)) ⟨_, rfl⟩) | (go_at_call 21; have hq := Done_r b g zs a' bad'; rw [HNr.out] at hq; exact quiet_at (hq _ (HB4.out.r.drewN _)) ⟨_, rfl⟩) | (go_at_call 38; have hq := rDone_r b2 (.slice ax nr cx) (restL zs a' bad') bad'; rw [HNr.out] at hq; exact quiet_at (hq _ (HB4.out.x.drewN _)) ⟨_, rfl⟩) | (go_at_call 39; exact quiet_at (Err_r _ _ _ _ _ _ (HB4.out.r.drewN _)) ⟨_, rfl⟩))
        go_wp2
        go_roundw
        case rel => exact ⟨k + 1, a', bad', _, by omega, by go_num, HB4.out.chg ((Chg.refl _ _).drewN _), HC4.out.drewN _⟩
        case measure => simp [intOf]; omega
      by_cases k3 : kd = 3
      · subst k3
        have hW1 : Both ((wr.alloc (.cells #[.int .i64 3, .int .i64 nn] 47)).drew) b g b2 sv zs a bad := HBo.out.chg (((Chg.refl [] wr).alloc _).drew)
        obtain ⟨ys, a', bad', hy, CN, RN⟩ := step_bytes hW1 nn
        have HCN := Lib.hid CN
        have HRN := Lib.hid RN
        have hbw : wr.heap.size ≠ b := by have := HBo.out.r.box.lt; omega
        have hcn : ((wr.alloc (.cells #[.int .i64 3, .int .i64 nn] 47)).drew).cell? ⟨wr.heap.size, 1, none⟩ = some (.int .i64 nn) := (Blk.new wr _ _).drew.cell rfl
        have HCL := Lib.hid hcn
        clear CN RN hW1 hcn
        go_wp2_with fail
        go_region_with (first | (go_at_call 20; refine HCN.out.mono ?_; rintro e w3 ⟨v3, rfl, h3, ho3, hR3, hc3⟩; have hcn3 := hc3.keep HCL.out (by simpa using hbw)) | (go_at_call 36; refine (HRN.out w3 hc3 hR3).mono ?_; rintro e w4 ⟨v4, sv', rfl, h4, hB4, hc4⟩) | (go_at_call 14; refine (Bytes_any _ _ ys ys _ ⟨h3.1.chg hc4 (fun y hy => by have := ho3 y hy; simp at this; simp; have := HBo.out.x.box.lt; omega), h3.2⟩ h4).mono ?_; rintro e w5 ⟨rfl, rfl⟩; simp only [decide_true]))
        all_goals
          have hC4 : Chg [] w w4 := (((HCo.out.alloc _).drew).into hc3 (fun y hy => by simp at hy; subst hy; exact .inr hb1)).into hc4 (fun y hy => by simp at hy; subst hy; exact .inr hB2)
          clear hc3 hc4 hR3 h3 h4 ho3 hcn3
          go_wp2_with fail
          obtain ⟨ax, cx, hsv, _⟩ := reads_slice hB4.x.rest.1
          subst hsv
          have cb0 := hB4.x.box.cell (o := 0) (v := .slice ax (restL zs a' bad').length cx) rfl
          have cb1 := hB4.x.box.cell (o := 1) (v := .bool bad') rfl
          have HE := errI_ne bad'
          have HB4 := Lib.hid hB4
          have HC4 := Lib.hid hC4
          clear hB4 hC4
          generalize hNr : (restL zs a' bad').length = nr at *
          have HNr := Lib.hid hNr
          clear hNr
          go_quiet (first | (go_at_call 37; have hq := Left_r b g zs a' bad'; rw [HNr.out] at hq; exact quiet_at (hq _ (HB4.out.r.drewN _)) ⟨_, rfl⟩) | (go_at_call 21; have hq := Done_r b g zs a' bad'; rw [HNr.out] at hq; exact quiet_at (hq _ (HB4.out.r.drewN _)) ⟨_, rfl⟩) | (go_at_call 38; have hq := rDone_r b2 (.slice ax nr cx) (restL zs a' bad') bad'; rw [HNr.out] at hq; exact quiet_at (hq _ (HB4.out.x.drewN _)) ⟨_, rfl⟩) | (go_at_call 39; exact quiet_at (Err_r _ _ _ _ _ _ (HB4.out.r.drewN _)) ⟨_, rfl⟩))
          go_wp2
          go_roundw
          case rel => exact ⟨k + 1, a', bad', _, by omega, by go_num, HB4.out.chg ((Chg.refl _ _).drewN _), HC4.out.drewN _⟩
          case measure => simp [intOf]; omega
      · have n0 : (kd == 0) = false := by simpa using k0
        have n1 : (kd == 1) = false := by simpa using k1
        have n2 : (kd == 2) = false := by simpa using k2
        have n3 : (kd == 3) = false := by simpa using k3
        clear k0 k1 k2 k3
        have hB4 : Both (wr.alloc (.cells #[.int .i64 kd, .int .i64 nn] 47)) b g b2 sv zs a bad := HBo.out.chg ((Chg.refl [] wr).alloc _)
        have hC4 : Chg [] w (wr.alloc (.cells #[.int .i64 kd, .int .i64 nn] 47)) := HCo.out.alloc _
        obtain ⟨a', bad', ha'⟩ : ∃ a' bad', a' = a ∧ bad' = bad := ⟨a, bad, rfl, rfl⟩
        obtain ⟨rfl, rfl⟩ := ha'
        go_wp2_with fail
        obtain ⟨ax, cx, hsv, _⟩ := reads_slice hB4.x.rest.1
        subst hsv
        have cb0 := hB4.x.box.cell (o := 0) (v := .slice ax (restL zs a' bad').length cx) rfl
        have cb1 := hB4.x.box.cell (o := 1) (v := .bool bad') rfl
        have HE := errI_ne bad'
        have HB4 := Lib.hid hB4
        have HC4 := Lib.hid hC4
        clear hB4 hC4
        generalize hNr : (restL zs a' bad').length = nr at *
        have HNr := Lib.hid hNr
        clear hNr
        go_quiet (first | (go_at_call 37; have hq := Left_r b g zs a' bad'; rw [HNr.out] at hq; exact quiet_at (hq _ (HB4.out.r.drewN _)) ⟨_, rfl⟩) | (go_at_call 21; have hq := Done_r b g zs a' bad'; rw [HNr.out] at hq; exact quiet_at (hq _ (HB4.out.r.drewN _)) ⟨_, rfl⟩) | (go_at_call 38; have hq := rDone_r b2 (.slice ax nr cx) (restL zs a' bad') bad'; rw [HNr.out] at hq; exact quiet_at (hq _ (HB4.out.x.drewN _)) ⟨_, rfl⟩) | (go_at_call 39; exact quiet_at (Err_r _ _ _ _ _ _ (HB4.out.r.drewN _)) ⟨_, rfl⟩))
        go_wp2
        go_roundw
        case rel => exact ⟨k + 1, a', bad', _, by omega, by go_num, HB4.out.chg ((Chg.refl _ _).drewN _), HC4.out.drewN _⟩
        case measure => simp [intOf]; omega
    · have HCo := Lib.hid hC
      clear hB hC
      go_wp2_with (go_at_call 10; refine (awake_any _).mono ?_; rintro e w' ⟨rfl, hc⟩)
      go_ret
      exact ⟨rfl, (HCo.out.trans hc).below⟩
theorem own : ownKnob Try.prog.godebug = none := by kernel_rfl
theorem laidOut : laidOutB Try.prog = true := by kernel_rfl

/-- The walk: the law returns true, and nothing that was there has turned. -/
theorem walk (w : World) (a0 : Option Addr) (len0 cap0 : Nat) (o0 : kit.Opens Try.prog w 9 22 [.slice a0 len0 cap0]) (a1 : Option Addr) (len1 cap1 : Nat) (o1 : kit.Opens Try.prog w 9 42 [.slice a1 len1 cap1]) :
    Calls Try.prog 7 #[.slice a0 len0 cap0, .slice a1 len1 cap1] w fun e w' => e = .returned (.bool true) ∧ Below w.heap.size w w' := by
  obtain ⟨zs, hzl, hr, hwz⟩ := o0.ints Try.underlying22 Try.underlying5 cells5
  obtain ⟨xs, hx, hxe⟩ := o1.slice Try.underlying42 cells47 (by decide)
  obtain ⟨rs, hrl, rfl, hrw⟩ := rows_of askCells (fun r => (Lit.int .i64 r.1).wf = true ∧ (Lit.int .i64 r.2).wf = true) 2 (fun _ => rfl) len1 xs hx.1 fun i hi => by
    have h := hxe i hi
    have hl := (h.struct Try.underlying47).1
    obtain ⟨k, hk, hkw⟩ := (h.field Try.underlying47 0 _ rfl 0 1 rfl cells3).int Try.underlying3
    obtain ⟨m, hm, hmw⟩ := (h.field Try.underlying47 1 _ rfl 1 1 rfl cells3).int Try.underlying3
    rw [cells47] at hl
    generalize (xs.drop (i * 2)).take 2 = ys at *
    refine ⟨(k, m), ?_, hkw, hmw⟩
    match ys, hl with
    | [y0, y1], _ => simp at hk hm; rw [hk, hm]; rfl
  clear hxe o0 o1
  by_cases h2 : len0 ≤ 2000 ∧ len1 ≤ 60
  · subst hzl
    subst hrl
    exact main a0 cap0 _ zs rs w ⟨hr, hwz⟩ h2.1 h2.2 hx hrw
  · by_cases h3 : 2000 < len0
    · have h4 : (2000 : Int) < len0 := by omega
      go_enter Try.func7, Try.ntmps7
      go_wp2_with (go_at_call 10; refine (awake_any _).mono ?_; rintro e w' ⟨rfl, hc⟩)
      go_ret
      exact ⟨rfl, hc.below⟩
    · have h4 : ¬ (2000 : Int) < len0 := by omega
      have h5 : (60 : Int) < len1 := by omega
      go_enter Try.func7, Try.ntmps7
      go_wp2_with (go_at_call 10; refine (awake_any _).mono ?_; rintro e w' ⟨rfl, hc⟩)
      go_ret
      exact ⟨rfl, hc.below⟩

set_option maxRecDepth 100000 in
theorem lifted (os : Os) (started : os.Started) (H : Type) (enc : TypeId × Value → H) :
    ReturnsInHanded {} Try.checked os 7 .any (Rows.codecReadsSpec.pre6 enc Try.prog Try.f7 Rows.codecReadsRow.domain false) (Rows.codecReadsSpec.post enc Try.prog Try.f7 false true false false) := by
  refine returnsInHanded_of_change (C := Try.checked) own started (by kernel_rfl) Try.func7
    (ChangeSpec.witness6 (enc := enc) (C := Try.checked) false ⟨#[], #[.slice none 0 0, .slice none 0 0], []⟩ 8 (by kernel_rfl) (by kernel_rfl) (by kernel_rfl) (by kernel_rfl)) ?_
  intro W base args ds gs before hval0 hW hcnd _
  have hval : ∀ (j : Nat) t v, Try.f7.params[j]? = some t → args[j]? = some v → Value.okWide Try.prog W .any base t v := hval0
  have hW' := hW
  obtain ⟨p, q, hA0, hV, rfl, hfz, hnd⟩ := hW
  have hA : DataW.TrodAll enc Try.prog W 0 (fun _ => true) true Try.f7.params.toList args.toList ds p := hA0
  rw [Try.params7] at hA hval
  obtain ⟨v0, vs0, d0, ds0, p0, q0, hargs, rfl, rfl, h0, r0⟩ := trodAll_cons hA
  obtain ⟨v1, vs1, d1, ds1, p1, q1, rfl, rfl, rfl, h1, r1⟩ := trodAll_cons r0
  obtain ⟨rfl, rfl, rfl⟩ := trodAll_nil r1
  obtain rfl : args = #[v0, v1] := by cases args; simp_all
  obtain ⟨rfl, rfl⟩ := trodVars_none hV
  have k0 := h0
  have lt0 : ∀ x ∈ p0, x.block < W.heap.size := by obtain ⟨m, hm⟩ := k0; exact DataW.trod_lt m _ _ _ hm
  have k1 := h1
  have lt1 : ∀ x ∈ p1, x.block < W.heap.size := by obtain ⟨m, hm⟩ := k1; exact DataW.trod_lt m _ _ _ hm
  obtain ⟨a0, len0, cap0, rfl⟩ := okWide_slice Try.underlying22 (hval 0 22 v0 rfl rfl)
  have o0 : kit.Opens Try.prog W 9 22 [.slice a0 len0 cap0] := by simpa [Value.cells] using kit.Trod_opens 9 k0
  obtain ⟨a1, len1, cap1, rfl⟩ := okWide_slice Try.underlying42 (hval 1 42 v1 rfl rfl)
  have o1 : kit.Opens Try.prog W 9 42 [.slice a1 len1 cap1] := by simpa [Value.cells] using kit.Trod_opens 9 k1
  clear hA0 hval0
  refine (walk W a0 len0 cap0 o0 a1 len1 cap1 o1).mono fun e W' ⟨he, bel⟩ => ?_
  subst he
  exact ⟨_, rfl, _, _, _, [], _, [], hW', trodAll_mk1 (shut_bool Try.underlying4 _), (trodAll_cons_mk (Below.trod laidOut (by kernel_rfl) (of_decide_eq_true (by kernel_rfl)) k0 bel lt0) (trodAll_cons_mk (Below.trod laidOut (by kernel_rfl) (of_decide_eq_true (by kernel_rfl)) k1 bel lt1) trodAll_mk0)), rfl, bel.frame _, fun h => by cases h⟩

theorem over : Rows.codecReadsRow.holds Try.pinned (OpenSpec.ofChange Rows.codecReadsSpec) :=
  OpenClaim.holds_of_wide 7 Try.f7 rfl rfl rfl rfl rfl rfl rfl ⟨rfl, rfl, rfl, rfl, rfl⟩ rfl rfl rfl rfl rfl (by kernel_rfl) Try.func7 (by kernel_rfl)
    (of_decide_eq_true (by kernel_rfl)) (by unfold Func.isWrapper; first | (rw [if_pos (by decide +kernel)]; kernel_rfl) | (rw [if_neg (by decide +kernel)]; exact ⟨rfl, rfl⟩))
    (fun os started H enc _ => lifted os started H enc)

/-- The statement. -/
theorem proved : Rows.CodecReadsSaid := over
end Go.Proofs.Ytkhbmgkofhdkmaa.codecReads
