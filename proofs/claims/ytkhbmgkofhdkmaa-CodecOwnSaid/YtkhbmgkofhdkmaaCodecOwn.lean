/-
  coxswainlaw02.CodecOwn returns true for every b and n: what a reader was made of may be changed, and what it told, and it tells the same; nobody's reader is bad. No conditions.
-/
import Derived.Test.YtkhbmgkofhdkmaaRows
import Derived.WalkKit
import Derived.ProofKit
import Derived.OpenShut
import Derived.ShutString
import Derived.ChangeOld
import Derived.Below
import Derived.Test.YtkhbmgkofhdkmaaOpen
import Derived.Test.YtkhbmgkofhdkmaaCodecW7
import Derived.Deep.RegionWith
namespace Go.Proofs.Ytkhbmgkofhdkmaa.codecOwn
open Go.ChangeShapes Go.WideShapes Go.ChangeAt Go.RowKit
open Go.ChangeMaps (open_string shut_string)
set_option linter.unusedVariables false
open Go.Proofs.Ytkhbmgkofhdkmaa.kit Go.Proofs.Ytkhbmgkofhdkmaa.codec
theorem cells5 : Try.prog.cellsOf 5 = 1 := by kernel_rfl
/-- so many bytes that may be written -/
def Cells8 (w : World) (b off n : Nat) : Prop := ∀ i, i < n → ∃ x, w.cell? ⟨b, off + i, none⟩ = some (.int .u8 x) ∧ 0 ≤ x ∧ x ≤ 255 ∧ w.frozen? ⟨b, off + i, none⟩ = false
theorem Cells8.set {w : World} {b off n : Nat} (h : Cells8 w b off n) (k : Nat) (hk : k < n) (y : Int) (h0 : 0 ≤ y) (h1 : y ≤ 255) : Cells8 (w.setCell ⟨b, off + k, none⟩ (.int .u8 y)) b off n := by
  intro i hi
  obtain ⟨x, hx, hx0, hx1, hf⟩ := h i hi
  obtain ⟨z, hz, _⟩ := h k hk
  have hf' : (w.setCell ⟨b, off + k, none⟩ (.int .u8 y)).frozen? ⟨b, off + i, none⟩ = false := by rw [World.frozen?_setCell]; exact hf
  by_cases hik : i = k
  · subst hik
    exact ⟨y, World.cell?_setCell_same w _ _ hz, h0, h1, hf'⟩
  · refine ⟨x, ?_, hx0, hx1, hf'⟩
    rw [World.cell?_setCell_other _ _ _ _ (fun e => hik (by simpa using (congrArg Addr.off e).symm))]
    exact hx
theorem Cells8.keep {w w' : World} {b off n : Nat} {L : List Nat} (h : Cells8 w b off n) (k : Chg L w w') (hn : 0 < n → b ∉ L) : Cells8 w' b off n := by
  intro i hi
  obtain ⟨x, hx, hx0, hx1, hf⟩ := h i hi
  refine ⟨x, k.keep hx (hn (by omega)), hx0, hx1, ?_⟩
  rw [k.frozen (World.block_lt_of_cell? w _ hx) (hn (by omega))]
  exact hf
/-- the blocks that a loop over n elements in block b turns -/
def turned (b n : Nat) : List Nat := if 0 < n then [b] else []
theorem mem_turned {b n x : Nat} (h : x ∈ turned b n) : x = b ∧ 0 < n := by
  unfold turned at h; split at h
  · simp at h; exact ⟨h, by assumption⟩
  · simp at h
theorem turned_mem {b n : Nat} (h : 0 < n) : b ∈ turned b n := by unfold turned; rw [if_pos h]; simp
theorem Cells8.of_own {w : World} {B : Nat} {v : Value} {zs : List Int} {b off : Nat} (h : OwnB w B v zs) (hw : ∀ n ∈ zs, (Lit.int .u8 n).wf = true) (hb : 0 < zs.length → v.ownBlock = some b)
    (hc : ∀ (j : Nat) u, (zs.map (Value.int .u8))[j]? = some u → w.cell? ⟨b, off + j, none⟩ = some u) : Cells8 w b off zs.length := by
  intro i hi
  have hx := wf_u8 (hw zs[i] (List.getElem_mem _))
  refine ⟨zs[i], hc i _ (by rw [List.getElem?_map, List.getElem?_eq_getElem hi]; rfl), hx.1, hx.2, ?_⟩
  have hbb := hb (by omega)
  rcases h.2 with ⟨rfl, h0⟩ | ⟨g, cap, cur, rfl, _, hg, _⟩
  · simp [Value.ownBlock] at hbb
  · simp [Value.ownBlock] at hbb
    subst hbb
    exact Blk.free (c := cur) (T := 5) hg _
set_option maxRecDepth 100000 in
set_option maxHeartbeats 2000000 in
theorem main (a0 : Option Addr) (cap0 : Nat) (zs : List Int) (n : Int) (w : World) (hr : ReadsB w (.slice a0 zs.length cap0) zs) (hz : zs.length ≤ 500) (hn0 : -9223372036854775808 ≤ n) (hn1 : n ≤ 9223372036854775807) :
    Calls Try.prog 8 #[.slice a0 zs.length cap0, .int .i64 n] w fun e w' => e = .returned (.bool true) ∧ Below w.heap.size w w' := by
  obtain ⟨i0, hi, hz0, hz1, hz2⟩ := info_parts info5
  go_enter Try.func8, Try.ntmps8
  go_wp2_with (first | (go_at_call 16; refine (New_any _ _ _ ((OwnB.reads hown3 hr.2)) (by omega)).mono ?_; rintro e w4 ⟨b, g, rfl, h4, hc4, hb4, hg4⟩) | (at_builtin; refine wpList_append_any (o := ⟨some 18, _, _, _, _, _⟩) _ rfl _ _ 22 rfl w.heap.size 5 i0 (.int .u8 0) 1 1 Try.underlying22 hi hz0 hz1 hz2 rfl (by decide) (.slice (some ⟨w.heap.size, 0, none⟩) 0 0) 0 [] rfl (World.ownsRow_lit w #[] 0 (Nat.le_refl _) (Nat.zero_le _) rfl) (.slice a0 zs.length cap0) zs.length _ rfl (hr.1.alloc _) (ints_oneCell _ _) (by have := hr.1.le; omega) (by omega) (by simp) ?_; intro v2 w2 hown2 hg2; simp only [Nat.zero_add, List.nil_append] at hown2; have hc2 : Chg [] w w2 := ((Chg.refl _ _).alloc _).grown hg2 (by simp [Value.ownBlock]); clear hg2; obtain ⟨a2, cc2, rfl, _⟩ := reads_slice (Reads.of_own hown2 (by decide))) | (at_builtin; refine wpList_append_any (o := ⟨some 21, _, _, _, _, _⟩) _ rfl _ _ 22 rfl w2.heap.size 5 i0 (.int .u8 0) 1 1 Try.underlying22 hi hz0 hz1 hz2 rfl (by decide) (.slice (some ⟨w2.heap.size, 0, none⟩) 0 0) 0 [] rfl (World.ownsRow_lit w2 #[] 0 (Nat.le_refl _) (Nat.zero_le _) rfl) (.slice a0 zs.length cap0) zs.length _ rfl ((hr.chg hc2).1.alloc _) (ints_oneCell _ _) (by have := hr.1.le; omega) (by omega) (by simp) ?_; intro v3 w3 hown3 hg3; simp only [Nat.zero_add, List.nil_append] at hown3; have hc3 : Chg [] w2 w3 := ((Chg.refl _ _).alloc _).grown hg3 (by simp [Value.ownBlock]); clear hg3; obtain ⟨a3, cc3, rfl, _⟩ := reads_slice (Reads.of_own hown3 (by decide))))
  have hown := hown3
  obtain ⟨bb, off, hix, hcell, hbb⟩ := reads_index (P := Try.prog) Try.underlying22 sz5 (OwnB.reads hown3 hr.2).1
  have hc8 : Cells8 w4 bb off zs.length := (Cells8.of_own hown3 hr.2 hbb hcell).keep hc4 (by simp)
  have hbd : 0 < zs.length → w2.heap.size ≤ bb ∧ bb < w3.heap.size := fun h0 => World.ownsRow.lt hown3 bb (hbb h0)
  have rwas : ReadsB w2 (.slice a2 zs.length cc2) zs := OwnB.reads hown2 hr.2
  have hwas : ∀ k, (Value.slice a2 zs.length cc2).ownBlock = some k → w.heap.size ≤ k ∧ k < w2.heap.size := World.ownsRow.lt hown2
  have hs23 := hc3.size
  have hs12 := hc2.size
  have k4 : Chg [] w w4 := (hc2.trans hc3).trans hc4
  have rwas4 : ReadsB w4 (.slice a2 zs.length cc2) zs := (rwas.chg hc3).chg hc4
  have HIX := Lib.hid hix
  have HBD := Lib.hid hbd
  have HWAS := Lib.hid hwas
  have HR4 := Lib.hid rwas4
  have HK4 := Lib.hid k4
  have H4 := Lib.hid h4
  clear hix hbd hwas hown hown2 hown3 hcell hbb rwas rwas4 k4 hc2 hc3 hc4 h4 hi hz0 hz1 hz2
  go_loopw [8, 26] (fun _ i wr => ∃ k : Nat, k ≤ zs.length ∧ i = .int .i64 k ∧ Cells8 wr bb off zs.length ∧ Chg (turned bb zs.length) w4 wr) (fun _ i _ => zs.length - (intOf i).toNat)
  case atStart => exact ⟨0, Nat.zero_le _, rfl, hc8, Chg.refl _ _⟩
  case round =>
    obtain ⟨k, hk, rfl, h8, hch⟩ := hrel
    clear hc8
    by_cases hlt : k < zs.length
    · have g1 := HIX.out k hlt
      rw [Nat.mul_one] at g1
      obtain ⟨x, g2, x0, x1, g3⟩ := h8 k hlt
      have H8 := Lib.hid h8
      have HCH := Lib.hid hch
      clear h8 hch
      go_wp2
      go_roundw
      case rel =>
        refine ⟨k + 1, by omega, by go_num, H8.out.set k hlt _ ?_ ?_, HCH.out.setCell (.inl (turned_mem (by omega))) _⟩ <;> omega
      case measure => simp [intOf] <;> omega
    · have hb5 : ∀ y, w3.heap.size ≤ y → y ∉ turned bb zs.length := fun y hy hm => by have := mem_turned hm; have := HBD.out this.2; omega
      have R5 : RIn wr b g zs 0 false := H4.out.keep hch (hb5 b hb4) (hb5 g hg4)
      have W5 : ReadsB wr (.slice a2 zs.length cc2) zs := ⟨HR4.out.1.chg hch fun y hy hm => by have h1 := HWAS.out y hy; have h2 := mem_turned hm; have h3 := HBD.out h2.2; omega, hr.2⟩
      have K5 : Chg [] w wr := HK4.out.into hch fun y hy => .inr (by have h2 := mem_turned hy; have h3 := HBD.out h2.2; omega)
      have HR5 := Lib.hid R5
      have HW5 := Lib.hid W5
      have HK5 := Lib.hid K5
      clear R5 W5 K5 hch h8
      obtain ⟨w5, hw5⟩ : ∃ w5 : World, w5 = wr := ⟨_, rfl⟩
      subst hw5
      have hbw : w.heap.size ≤ b := by have := HK4.out.size; have := hb4; omega
      by_cases hn : n < 0
      · have hbad : n < 0 ∨ (zs.length : Int) < ((0 : Nat) : Int) + n := .inl hn
        have HBAD := Lib.hid hbad
        go_wp2_with (first | (go_at_call_of 17 (Value.pointer none); refine (U8_of (.pointer none) 0 w5 (w5 = ·) (by decide) (by decide) (num_none _ _ _ _ (next_nil _ _))).mono ?_; rintro e w' ⟨rfl, rfl⟩) | (go_at_call_of 18 (Value.pointer none); refine (U16_of (.pointer none) 0 w5 (w5 = ·) (by decide) (by decide) (num_none _ _ _ _ (next_nil _ _))).mono ?_; rintro e w' ⟨rfl, rfl⟩) | (go_at_call_of 19 (Value.pointer none); refine (U32_of (.pointer none) 0 w5 (w5 = ·) (by decide) (by decide) (num_none _ _ _ _ (next_nil _ _))).mono ?_; rintro e w' ⟨rfl, rfl⟩) | (go_at_call_of 20 (Value.pointer none); refine (Bytes_of (.pointer none) n [] w5 (w5 = ·) (by simp) ((next_nil n w5).mono fun e w' h => ⟨_, h.1, ReadsB.nil _, h.2⟩)).mono ?_; rintro e w6 ⟨v6, _, rfl, rfl, ho6, hc6⟩; obtain ⟨a6, cc6, rfl, _⟩ := reads_slice (Reads.of_own ho6 (by decide))) | (go_at_call_of 37 (Value.pointer none); refine (Left_nil _).mono ?_; rintro e w' ⟨rfl, rfl⟩) | (go_at_call_of 39 (Value.pointer none); refine (Err_nil _).mono ?_; rintro e w' ⟨rfl, rfl⟩) | (go_at_call_of 21 (Value.pointer none); refine (Done_nil _).mono ?_; rintro e w' ⟨rfl, rfl⟩))
        have R6 := (HR5.out).keep hc6 (by simp) (by simp)
        have K6 := HK5.out.trans hc6
        have HB := Lib.hid (Bytes_of _ n [] _ (fun w' => RIn w' b g zs 0 true ∧ Chg [b] w6 w') (by simp) ((next_short b g zs 0 n w6 R6 hbad).mono fun e w' h => ⟨_, h.1, ReadsB.nil _, h.2⟩))
        refine HB.out.mono ?_
        rintro e w7 ⟨v7, w7a, rfl, ⟨h7, hc7⟩, ho7, hc7a⟩
        obtain ⟨a7, cc7, rfl, _⟩ := reads_slice (Reads.of_own ho7 (by decide))
        have R7 := h7.keep hc7a (by simp) (by simp)
        have K7 : Chg [] w w7 := (K6.into hc7 (fun y hy => by simp at hy; subst hy; exact .inr hbw)).trans hc7a
        clear hc7 hc7a h7 ho7 ho6 hc6
        go_wp2_with (first | (go_at_call 37; refine (Left_any _ _ _ _ _ _ R7).mono ?_; rintro e w8 ⟨rfl, n8, rfl⟩; rw [if_pos rfl]) | (go_at_call 21; refine (Done_any _ _ _ _ _ _ (R7.drewN _)).mono ?_; rintro e w9 ⟨rfl, n9, rfl⟩; rw [if_pos rfl]) | (go_at_call 10; refine (awake_any _).mono ?_; rintro e w10 ⟨rfl, hc10⟩))
        go_ret
        exact ⟨rfl, ((K7.drewN _).trans hc10).below⟩
      · by_cases hn2 : (zs.length : Int) < n
        · have hbad : n < 0 ∨ (zs.length : Int) < ((0 : Nat) : Int) + n := .inr (by omega)
          have HBAD := Lib.hid hbad
          go_wp2_with (first | (go_at_call_of 17 (Value.pointer none); refine (U8_of (.pointer none) 0 w5 (w5 = ·) (by decide) (by decide) (num_none _ _ _ _ (next_nil _ _))).mono ?_; rintro e w' ⟨rfl, rfl⟩) | (go_at_call_of 18 (Value.pointer none); refine (U16_of (.pointer none) 0 w5 (w5 = ·) (by decide) (by decide) (num_none _ _ _ _ (next_nil _ _))).mono ?_; rintro e w' ⟨rfl, rfl⟩) | (go_at_call_of 19 (Value.pointer none); refine (U32_of (.pointer none) 0 w5 (w5 = ·) (by decide) (by decide) (num_none _ _ _ _ (next_nil _ _))).mono ?_; rintro e w' ⟨rfl, rfl⟩) | (go_at_call_of 20 (Value.pointer none); refine (Bytes_of (.pointer none) n [] w5 (w5 = ·) (by simp) ((next_nil n w5).mono fun e w' h => ⟨_, h.1, ReadsB.nil _, h.2⟩)).mono ?_; rintro e w6 ⟨v6, _, rfl, rfl, ho6, hc6⟩; obtain ⟨a6, cc6, rfl, _⟩ := reads_slice (Reads.of_own ho6 (by decide))) | (go_at_call_of 37 (Value.pointer none); refine (Left_nil _).mono ?_; rintro e w' ⟨rfl, rfl⟩) | (go_at_call_of 39 (Value.pointer none); refine (Err_nil _).mono ?_; rintro e w' ⟨rfl, rfl⟩) | (go_at_call_of 21 (Value.pointer none); refine (Done_nil _).mono ?_; rintro e w' ⟨rfl, rfl⟩))
          have R6 := (HR5.out).keep hc6 (by simp) (by simp)
          have K6 := HK5.out.trans hc6
          have HB := Lib.hid (Bytes_of _ n [] _ (fun w' => RIn w' b g zs 0 true ∧ Chg [b] w6 w') (by simp) ((next_short b g zs 0 n w6 R6 hbad).mono fun e w' h => ⟨_, h.1, ReadsB.nil _, h.2⟩))
          refine HB.out.mono ?_
          rintro e w7 ⟨v7, w7a, rfl, ⟨h7, hc7⟩, ho7, hc7a⟩
          obtain ⟨a7, cc7, rfl, _⟩ := reads_slice (Reads.of_own ho7 (by decide))
          have R7 := h7.keep hc7a (by simp) (by simp)
          have K7 : Chg [] w w7 := (K6.into hc7 (fun y hy => by simp at hy; subst hy; exact .inr hbw)).trans hc7a
          clear hc7 hc7a h7 ho7 ho6 hc6
          go_wp2_with (first | (go_at_call 37; refine (Left_any _ _ _ _ _ _ R7).mono ?_; rintro e w8 ⟨rfl, n8, rfl⟩; rw [if_pos rfl]) | (go_at_call 21; refine (Done_any _ _ _ _ _ _ (R7.drewN _)).mono ?_; rintro e w9 ⟨rfl, n9, rfl⟩; rw [if_pos rfl]) | (go_at_call 10; refine (awake_any _).mono ?_; rintro e w10 ⟨rfl, hc10⟩))
          go_ret
          exact ⟨rfl, ((K7.drewN _).trans hc10).below⟩
        · obtain ⟨m, rfl⟩ := Int.eq_ofNat_of_zero_le (Int.not_lt.1 hn)
          go_wp2_with (first | (go_at_call_of 17 (Value.pointer none); refine (U8_of (.pointer none) 0 w5 (w5 = ·) (by decide) (by decide) (num_none _ _ _ _ (next_nil _ _))).mono ?_; rintro e w' ⟨rfl, rfl⟩) | (go_at_call_of 18 (Value.pointer none); refine (U16_of (.pointer none) 0 w5 (w5 = ·) (by decide) (by decide) (num_none _ _ _ _ (next_nil _ _))).mono ?_; rintro e w' ⟨rfl, rfl⟩) | (go_at_call_of 19 (Value.pointer none); refine (U32_of (.pointer none) 0 w5 (w5 = ·) (by decide) (by decide) (num_none _ _ _ _ (next_nil _ _))).mono ?_; rintro e w' ⟨rfl, rfl⟩) | (go_at_call_of 20 (Value.pointer none); refine (Bytes_of (.pointer none) (m : Int) [] w5 (w5 = ·) (by simp) ((next_nil (m : Int) w5).mono fun e w' h => ⟨_, h.1, ReadsB.nil _, h.2⟩)).mono ?_; rintro e w6 ⟨v6, _, rfl, rfl, ho6, hc6⟩; obtain ⟨a6, cc6, rfl, _⟩ := reads_slice (Reads.of_own ho6 (by decide))) | (go_at_call_of 37 (Value.pointer none); refine (Left_nil _).mono ?_; rintro e w' ⟨rfl, rfl⟩) | (go_at_call_of 39 (Value.pointer none); refine (Err_nil _).mono ?_; rintro e w' ⟨rfl, rfl⟩) | (go_at_call_of 21 (Value.pointer none); refine (Done_nil _).mono ?_; rintro e w' ⟨rfl, rfl⟩))
          have R6 := (HR5.out).keep hc6 (by simp) (by simp)
          have K6 := HK5.out.trans hc6
          have W6 := HW5.out.chg hc6
          have hmz : m ≤ zs.length := by omega
          have hbd6 : zs.length ≤ 1000000 := by omega
          refine (Bytes_of _ m (zs.take m) _ (fun w' => RIn w' b g zs (0 + m) false ∧ Chg [b] w6 w') (by simp; omega) ((next_ok b g zs 0 m w6 R6 (by omega)).mono ?_)).mono ?_
          · rintro e w' ⟨o, c, rfl, ho, hnc, hcl, hR, hC⟩
            exact ⟨_, rfl, by have := hR.piece o 0 m c (by omega) ho hnc hcl; simpa using this, hR, hC⟩
          rintro e w7 ⟨v7, w7a, rfl, ⟨h7, hc7⟩, ho7, hc7a⟩
          have hl7 : (zs.take m).length = m := by simp; omega
          have hwt : ∀ x ∈ zs.take m, (Lit.int .u8 x).wf = true := fun x hx => hr.2 x (List.mem_of_mem_take hx)
          have ho7' := ho7
          have hrd7 := (OwnB.reads ho7 hwt).1
          generalize zs.take m = ys at *
          obtain ⟨a7, cc7, rfl, _⟩ := reads_slice hrd7
          obtain ⟨bb7, off7, hix7, hcell7, hbb7⟩ := reads_index (P := Try.prog) Try.underlying22 sz5 hrd7
          have hc87 : Cells8 w7 bb7 off7 ys.length := Cells8.of_own ho7 hwt hbb7 hcell7
          have hbd7 : 0 < ys.length → w7a.heap.size ≤ bb7 := fun h0 => (World.ownsRow.lt ho7 bb7 (hbb7 h0)).1
          have R7 := h7.keep hc7a (by simp) (by simp)
          have hs67 := hc7.size
          have hbl : b < w7a.heap.size := h7.box.lt
          have hgl : g < w7a.heap.size := h7.bytes.lt
          have hwl : ∀ y, (Value.slice a2 zs.length cc2).ownBlock = some y → w.heap.size ≤ y ∧ y ≠ b ∧ y < w7a.heap.size := fun y hy => by
            have h1 := HWAS.out y hy; have h2 := HK4.out.size; have h3 := hb4; have h4' := HK5.out.size; have h5 := hc6.size
            have h6 := H4.out.box.lt
            refine ⟨h1.1, by omega, by omega⟩
          have K7 : Chg [] w w7 := (K6.into hc7 (fun y hy => by simp at hy; subst hy; exact .inr hbw)).trans hc7a
          have W7 : ReadsB w7 (.slice a2 zs.length cc2) zs := ⟨((W6.1.chg hc7 (fun y hy => by simp; exact (hwl y hy).2.1)).fresh hc7a), hr.2⟩
          have KS : w.heap.size ≤ w7a.heap.size := Nat.le_trans K6.size hs67
          have HIX7 := Lib.hid hix7
          have HBD7 := Lib.hid hbd7
          have HWL := Lib.hid hwl
          have HR7 := Lib.hid R7
          have HK7 := Lib.hid K7
          have HW7 := Lib.hid W7
          have HL7 := Lib.hid hl7
          have hl7' : ys.length ≤ m := by omega
          clear hix7 hbd7 hwl R7 K7 W7 hl7 hcell7 hbb7 ho7 ho7' hrd7 hwt hc7 hc7a h7 hc6 ho6 R6 K6 W6
          go_wp2_with fail
          go_loopw [11, 102] (fun _ i wr => ∃ k : Nat, k ≤ ys.length ∧ i = .int .i64 k ∧ Cells8 wr bb7 off7 ys.length ∧ Chg (turned bb7 ys.length) w7 wr) (fun _ i _ => ys.length - (intOf i).toNat)
          case atStart => exact ⟨0, Nat.zero_le _, rfl, hc87, Chg.refl _ _⟩
          case round =>
            obtain ⟨k, hk, rfl, h8, hch⟩ := hrel
            clear hc87
            by_cases hlt : k < ys.length
            · have g1 := HIX7.out k hlt
              rw [Nat.mul_one] at g1
              obtain ⟨x, g2, x0, x1, g3⟩ := h8 k hlt
              have H8 := Lib.hid h8
              have HCH := Lib.hid hch
              clear h8 hch
              go_wp2
              go_roundw
              case rel =>
                refine ⟨k + 1, by omega, by go_num, H8.out.set k hlt _ ?_ ?_, HCH.out.setCell (.inl (turned_mem (by omega))) _⟩ <;> omega
              case measure => simp [intOf] <;> omega
            · have hb5 : ∀ y, y < w7a.heap.size → y ∉ turned bb7 ys.length := fun y hy hm => by have := mem_turned hm; have := HBD7.out this.2; omega
              have R8 : RIn wr b g zs (0 + m) false := HR7.out.keep hch (hb5 b hbl) (hb5 g hgl)
              have W8 : ReadsB wr (.slice a2 zs.length cc2) zs := ⟨HW7.out.1.chg hch fun y hy => hb5 y (HWL.out y hy).2.2, hr.2⟩
              have K8 : Chg [] w wr := HK7.out.into hch fun y hy => .inr (by have h2 := mem_turned hy; have h3 := HBD7.out h2.2; omega)
              obtain ⟨vs, es, rs, os⟩ := slice_low (P := Try.prog) Try.underlying22 sz5 W8.1 m hmz
              have hdl : ((zs.map (Value.int .u8)).drop (m * 1)) = (zs.drop m).map (Value.int .u8) := by rw [Nat.mul_one, List.map_drop]
              rw [hdl] at rs
              have hrl : (zs.drop m).length = zs.length - m := by simp
              have rs' : ReadsB wr vs (zs.drop m) := ⟨by rw [hrl]; exact rs, fun x hx => hr.2 x (List.mem_of_mem_drop hx)⟩
              have hsub : IntKind.i64.wrap ((zs.length : Int) - (m : Int)) = ((zs.length - m : Nat) : Int) := by rw [IntWalk.i64_in _ (by omega)]; omega
              have osw : ∀ y, vs.ownBlock = some y → y ≠ b := fun y hy => (HWL.out y (by rw [← os]; exact hy)).2.1
              have HES := Lib.hid es
              have HSUB := Lib.hid hsub
              clear es hsub rs hdl hrl hch h8 W8
              go_wp2_with fail
              have e1 := HES.out
              have e2 := HSUB.out
              have R9 : RIn wr.drew b g zs (0 + m) false := R8.keep ((Chg.refl [] wr).drew) (by simp) (by simp)
              have hpc : ((zs.drop (0 + m)).take (zs.length - m)) = zs.drop m := by rw [Nat.zero_add, List.take_of_length_le (by simp)]
              have HB9 := Lib.hid (Bytes_of _ ((zs.length - m : Nat) : Int) (zs.drop m) _ (fun w' => Chg [b] wr.drew w') (by simp; omega) ((next_ok b g zs (0 + m) (zs.length - m) wr.drew R9 (by omega)).mono (by
                rintro e w' ⟨o, c, rfl, ho, hnc, hcl, hR, hC⟩
                exact ⟨_, rfl, by have := hR.piece o (0 + m) (zs.length - m) c (by omega) ho hnc hcl; rwa [hpc] at this, hC⟩)))
              have K9 : Chg [] w wr.drew := K8.drew
              have hwd : ∀ x ∈ zs.drop m, (Lit.int .u8 x).wf = true := rs'.2
              have rs9 : ReadsB wr.drew vs (zs.drop m) := ⟨rs'.1.fresh ((Chg.refl [] wr).drew), hwd⟩
              have HK9 := Lib.hid K9
              have HRS := Lib.hid rs9
              have HWD := Lib.hid hwd
              have HOS := Lib.hid osw
              clear hpc R8 R9 K8 K9 rs' rs9 hwd osw os
              go_region_with (first | (go_at_call 20; refine HB9.out.mono ?_; rintro e w10 ⟨v10, w10a, rfl, hc10, ho10, hc10a⟩) | (go_at_call 14; refine (Bytes_any _ _ (zs.drop m) (zs.drop m) _ (OwnB.reads ho10 HWD.out) ⟨(HRS.out.1.chg hc10 (fun y hy => by simp; exact HOS.out y hy)).fresh hc10a, HWD.out⟩).mono ?_; rintro e w11 ⟨rfl, rfl⟩; simp only [decide_true]) | (go_at_call 10; refine (awake_any _).mono ?_; rintro e w12 ⟨rfl, hc12⟩))
              all_goals
                go_wp2
                go_ret
                exact ⟨rfl, (((HK9.out.into hc10 (fun y hy => by simp at hy; subst hy; exact .inr hbw)).trans hc10a).trans hc12).below⟩
theorem own : ownKnob Try.prog.godebug = none := by kernel_rfl
theorem laidOut : laidOutB Try.prog = true := by kernel_rfl

/-- The walk: the law returns true, and nothing that was there has turned. -/
theorem walk (w : World) (a0 : Option Addr) (len0 cap0 : Nat) (o0 : kit.Opens Try.prog w 9 22 [.slice a0 len0 cap0]) (x1 : Int) (w1 : (Lit.int .i64 x1).wf = true) :
    Calls Try.prog 8 #[.slice a0 len0 cap0, .int .i64 x1] w fun e w' => e = .returned (.bool true) ∧ Below w.heap.size w w' := by
  obtain ⟨zs, hzl, hr, hwz⟩ := o0.ints Try.underlying22 Try.underlying5 cells5
  by_cases h2 : len0 ≤ 500
  · subst hzl
    exact main a0 cap0 zs x1 w ⟨hr, hwz⟩ h2 (wf_i64 w1).1 (wf_i64 w1).2
  · have h4 : (500 : Int) < len0 := by omega
    go_enter Try.func8, Try.ntmps8
    go_wp2_with (go_at_call 10; refine (awake_any _).mono ?_; rintro e w' ⟨rfl, hc⟩)
    go_ret
    exact ⟨rfl, hc.below⟩

set_option maxRecDepth 100000 in
theorem lifted (os : Os) (started : os.Started) (H : Type) (enc : TypeId × Value → H) :
    ReturnsInHanded {} Try.checked os 8 .any (Rows.codecOwnSpec.pre6 enc Try.prog Try.f8 Rows.codecOwnRow.domain false) (Rows.codecOwnSpec.post enc Try.prog Try.f8 false true false false) := by
  refine returnsInHanded_of_change (C := Try.checked) own started (by kernel_rfl) Try.func8
    (ChangeSpec.witness6 (enc := enc) (C := Try.checked) false ⟨#[], #[.slice none 0 0, .int .i64 0], []⟩ 8 (by kernel_rfl) (by kernel_rfl) (by kernel_rfl) (by kernel_rfl)) ?_
  intro W base args ds gs before hval0 hW hcnd _
  have hval : ∀ (j : Nat) t v, Try.f8.params[j]? = some t → args[j]? = some v → Value.okWide Try.prog W .any base t v := hval0
  have hW' := hW
  obtain ⟨p, q, hA0, hV, rfl, hfz, hnd⟩ := hW
  have hA : DataW.TrodAll enc Try.prog W 0 (fun _ => true) true Try.f8.params.toList args.toList ds p := hA0
  rw [Try.params8] at hA hval
  obtain ⟨v0, vs0, d0, ds0, p0, q0, hargs, rfl, rfl, h0, r0⟩ := trodAll_cons hA
  obtain ⟨v1, vs1, d1, ds1, p1, q1, rfl, rfl, rfl, h1, r1⟩ := trodAll_cons r0
  obtain ⟨rfl, rfl, rfl⟩ := trodAll_nil r1
  obtain rfl : args = #[v0, v1] := by cases args; simp_all
  obtain ⟨rfl, rfl⟩ := trodVars_none hV
  have k0 := h0
  have lt0 : ∀ x ∈ p0, x.block < W.heap.size := by obtain ⟨m, hm⟩ := k0; exact DataW.trod_lt m _ _ _ hm
  have k1 := h1
  have lt1 : ∀ x ∈ p1, x.block < W.heap.size := by obtain ⟨m, hm⟩ := k1; exact DataW.trod_lt m _ _ _ hm
  obtain ⟨a0, len0, cap0, rfl⟩ := okWide_slice Try.underlying22 (hval 0 22 v0 rfl rfl)
  have o0 : kit.Opens Try.prog W 9 22 [.slice a0 len0 cap0] := by simpa [Value.cells] using kit.Trod_opens 9 k0
  obtain ⟨x1, rfl, _, _, w1⟩ := open_int Try.underlying3 (hval 1 3 v1 rfl rfl) h1
  clear hA0 hval0
  refine (walk W a0 len0 cap0 o0 x1 w1).mono fun e W' ⟨he, bel⟩ => ?_
  subst he
  exact ⟨_, rfl, _, _, _, [], _, [], hW', trodAll_mk1 (shut_bool Try.underlying4 _), (trodAll_cons_mk (Below.trod laidOut (by kernel_rfl) (of_decide_eq_true (by kernel_rfl)) k0 bel lt0) (trodAll_cons_mk (Below.trod laidOut (by kernel_rfl) (of_decide_eq_true (by kernel_rfl)) k1 bel lt1) trodAll_mk0)), rfl, bel.frame _, fun h => by cases h⟩

theorem over : Rows.codecOwnRow.holds Try.pinned (OpenSpec.ofChange Rows.codecOwnSpec) :=
  OpenClaim.holds_of_wide 8 Try.f8 rfl rfl rfl rfl rfl rfl rfl ⟨rfl, rfl, rfl, rfl, rfl⟩ rfl rfl rfl rfl rfl (by kernel_rfl) Try.func8 (by kernel_rfl)
    (of_decide_eq_true (by kernel_rfl)) (by unfold Func.isWrapper; first | (rw [if_pos (by decide +kernel)]; kernel_rfl) | (rw [if_neg (by decide +kernel)]; exact ⟨rfl, rfl⟩))
    (fun os started H enc _ => lifted os started H enc)

/-- The statement. -/
theorem proved : Rows.CodecOwnSaid := over
end Go.Proofs.Ytkhbmgkofhdkmaa.codecOwn
