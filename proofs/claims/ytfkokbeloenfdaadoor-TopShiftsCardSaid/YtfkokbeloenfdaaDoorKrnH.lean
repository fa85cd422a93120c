/- The kernel: agenda.Until; a set's numbers: bitmap.all, List. -/
import Derived.Test.YtfkokbeloenfdaaDoorKrnG
import Derived.Test.YtfkokbeloenfdaaDoorTab
import Derived.Shelf.Abstract
namespace Go.Proofs.YtfkokbeloenfdaaDoor.krn
open Go Go.RowKit Go.Proofs.YtfkokbeloenfdaaDoor.kit Go.Shelf
set_option linter.unusedVariables false
set_option linter.unusedSimpArgs false
set_option maxRecDepth 20000
attribute [local go_sem] Oper.semAt_some
theorem untilM_len (t : Int) : ∀ (k : Nat) (ds : List Du), ds.length ≤ k → (untilM t ds).1.length + (untilM t ds).2.length = ds.length
  | 0, ds, h => by
    have : ds = [] := List.eq_nil_of_length_eq_zero (by omega)
    subst this
    rw [untilM_nil]; rfl
  | k + 1, [], h => by rw [untilM_nil]; rfl
  | k + 1, d :: r, h => by
    rw [untilM_cons]
    split
    · have h1 := popM_len (d :: r)
      have h2 := untilM_len t k (popM (d :: r)) (by rw [h1]; simp at h ⊢; omega)
      simp only [List.length_cons] at h1 ⊢
      omega
    · simp
theorem AgAt.of_heap {w w' : World} {B db : Nat} {room : Int} {a : Option Addr} {c : Nat} {ds : List Du} (h : AgAt w B db room a c ds) (h1 : w'.heap[db]? = w.heap[db]?) (h2 : ∀ y, (Value.slice a ds.length c).ownBlock = some y → w'.heap[y]? = w.heap[y]?) : AgAt w' B db room a c ds := by
  refine ⟨h1.trans h.1, ?_⟩
  obtain ⟨h3, h4⟩ := h.2
  refine ⟨h3, ?_⟩
  rcases h4 with h4 | ⟨g, cap, cur, hv, hB, hg, h5⟩
  · exact .inl h4
  · rw [hv] at h2
    exact .inr ⟨g, cap, cur, hv, hB, (h2 g rfl).trans hg, h5⟩
set_option maxHeartbeats 2000000 in
theorem Until_any (B db c : Nat) (room t : Int) (a : Option Addr) (ds : List Du) (w : World) (hl : ds.length ≤ 4096) (ha : AgAt w B db room a c ds) :
    Calls Tryd.prog 26 #[.pointer (some ⟨db, 0, none⟩), .int .i64 t] w fun e W' => ∃ v, e = .returned v ∧ OwnD W' w.heap.size v (untilM t ds).1 ∧ AgAt W' B db room a c (untilM t ds).2 ∧ Chg (db :: (Value.slice a ds.length c).ownBlock.toList) w W' := by
  obtain ⟨W1, hW1⟩ : ∃ W1, (w.alloc (.cells #[.pointer (some ⟨db, 0, none⟩)] 63)).alloc (.cells #[.int .i64 t] 3) = W1 := ⟨_, rfl⟩
  have hs1 : W1.heap.size = w.heap.size + 2 := by rw [← hW1]; simp
  have hc1 : Chg [] w W1 := by rw [← hW1]; exact ((Chg.refl [] w).alloc _).alloc _
  have hb1 : Blk W1 w.heap.size #[.pointer (some ⟨db, 0, none⟩)] 63 := by rw [← hW1]; exact (Blk.new w _ _).alloc _
  have hb2 : Blk W1 (w.heap.size + 1) #[.int .i64 t] 3 := by
    rw [← hW1]
    have := Blk.new (w.alloc (.cells #[.pointer (some ⟨db, 0, none⟩)] 63)) #[.int .i64 t] 3
    rwa [World.size_alloc] at this
  have hlt : ∀ y, (Value.slice a ds.length c).ownBlock = some y → y < w.heap.size := fun y hy => (World.ownsRow.lt ha.2 y hy).2
  have hdb := ha.1.lt
  have hown : ∀ (m : Nat), (Value.slice a m c).ownBlock = (Value.slice a ds.length c).ownBlock := fun m => by cases a <;> rfl
  have HCO := Lib.hid (Collect_due 52 #[.pointer (some ⟨w.heap.size, 0, none⟩), .pointer (some ⟨w.heap.size + 1, 0, none⟩)] (enters_of Tryd.func52 (by kernel_rfl) rfl)
    (db :: (Value.slice a ds.length c).ownBlock.toList) (w.heap.size :: (w.heap.size + 1) :: db :: (Value.slice a ds.length c).ownBlock.toList) _ _ _ W1
    (fun w0 h => due1_ok 4 (by omega) B w.heap.size (w.heap.size + 1) db c room t a ds w0 hl (hb1.keep h (by simp)) (hb2.keep h (by simp)) ((ha.fresh hc1).fresh h))
    (fun b hb => by
      rcases List.mem_cons.1 hb with rfl | hb
      · omega
      · have := hlt b (Option.mem_toList.1 hb); omega)
    (fun b hb => by
      simp only [List.mem_cons] at hb
      rcases hb with rfl | rfl | rfl | hb
      · omega
      · omega
      · omega
      · have := hlt b (Option.mem_toList.1 hb); omega)
    (fun xs A B' hS hh hz => ⟨hS.1, hS.2.of_heap (hh db (by omega)) (fun y hy => hh y (by rw [hown] at hy; have := hlt y hy; omega))⟩)
    (fun pre x V hR => by
      have h1 := hR.length_le
      have h2 := untilM_len t ds.length ds (Nat.le_refl _)
      simp at h1; omega))
  have HHC := Lib.hid hc1
  have HLE : Hid (w.heap.size ≤ W1.heap.size) := Lib.hid (by omega)
  clear hs1 hb1 hb2 hlt hdb hown hl ha hc1
  go_enter Tryd.func26, Tryd.ntmps26
  go_wp2_with (first | (go_at_call 42; refine (due_any db t _).mono ?_; rintro e w' ⟨rfl, rfl⟩; rw [hW1]; clear hW1) | (go_at_call 41; refine HCO.out.mono ?_; rintro e w2 ⟨xs, v, rfl, ⟨rfl, ha2⟩, ho, hc⟩))
  go_ret
  exact ⟨_, rfl, own_mono ho HLE.out, ha2, (HHC.out.mono (by simp)).trans hc⟩
/-- a set's numbers, rising -/
def bitsM (m : Nat) : List Nat := if h : m = 0 then [] else Lib.ctz 64 m :: bitsM (m &&& (m - 1))
termination_by m
decreasing_by
  have : m &&& (m - 1) ≤ m - 1 := Nat.and_le_right
  omega
theorem bitsM_zero : bitsM 0 = [] := by rw [bitsM]; rfl
theorem bitsM_pos {m : Nat} (h : m ≠ 0) : bitsM m = Lib.ctz 64 m :: bitsM (m &&& (m - 1)) := by rw [bitsM, dif_neg h]
theorem tab_heap {w w' : World} (h : bitm.Tab w) (k : w'.heap[0]? = w.heap[0]?) : bitm.Tab w' := fun j hj => by
  have := h j hj
  unfold World.cell? at this ⊢
  rw [k]
  exact this
def boxNat (w : World) (b : Nat) : Nat := match w.cell? ⟨b, 0, none⟩ with
  | some (.int _ n) => n.toNat
  | _ => 0
theorem boxNat_of {w : World} {b n : Nat} {T : TypeId} (h : Blk w b #[.int .u64 (n : Int)] T) : boxNat w b = n := by
  have h1 := h.cell (o := 0) (v := .int .u64 (n : Int)) rfl
  simp [boxNat, h1]
theorem all_any (m : Nat) (w : World) :
    Calls Tryd.prog 44 #[.int .u64 (m : Int)] w fun e w' => e = .returned (.func (.func 57) #[] #[.pointer (some ⟨w.heap.size, 0, none⟩)]) ∧ w' = w.alloc (.cells #[.int .u64 (m : Int)] 82) := by
  go_enter Tryd.func44, Tryd.ntmps44
  go_wp2_with fail
  go_ret
  exact ⟨rfl, rfl⟩
set_option maxHeartbeats 4000000 in
theorem all1_ok (n : Nat) (hn : 1 ≤ n) (b m : Nat) (hm : m < 18446744073709551616) (w : World) (hb : Blk w b #[.int .u64 (m : Int)] 82) (hT : bitm.Tab w) (hb0 : b ≠ 0) :
    IterOK2 Fence.wide n Tryd.prog 57 #[.pointer (some ⟨b, 0, none⟩)] (fun x : Nat => #[.int .i64 (x : Int)]) [b] (KpH [b, 0]) (fun xs _ => xs = bitsM m) (fun pre => pre <+: bitsM m) (fun pre x _ => pre ++ [x] <+: bitsM m) w := fun l J Jx W hW hJ hJx hY h0 => by
  have HB := Lib.hid (hb.keep hW (by simp))
  have HT : Hid (bitm.Tab W) := Lib.hid (hT.keep hW)
  have HM := Lib.hid hm
  have HB0 := Lib.hid hb0
  clear hb hT hW hm hb0
  refine callsIn_of_wp Tryd.func57 rfl trivial ?_ rfl
  simp only [Tryd.ntmps57, List.size_toArray, List.length_cons, List.length_nil, Nat.reduceAdd, Nat.reduceSub, Array.replicate_succ, Array.replicate_zero, List.push_toArray, List.append_toArray, List.nil_append, List.cons_append]
  gi_wp2
  gi_loopw [3] (fun p wr => ∃ (pre : List Nat) (k : Nat), Hid (bitsM m = pre ++ bitsM k ∧ k < 18446744073709551616) ∧ Hid (Blk wr b #[.int .u64 (k : Int)] 82 ∧ bitm.Tab wr) ∧ J pre wr) (fun p wr => boxNat wr b)
  case atStart => exact ⟨[], m, Lib.hid ⟨rfl, HM.out⟩, Lib.hid ⟨HB.out, HT.out⟩, h0⟩
  case round =>
    obtain ⟨pre, k, HK, HS, hJs⟩ := hrel
    have c0 : wr.cell? ⟨b, 0, none⟩ = some (.int .u64 (k : Int)) := HS.out.1.cell rfl
    by_cases hk : k = 0
    · subst hk
      gi_wp2
      go_end0
      exact ⟨⟨_, rfl⟩, .inl ⟨pre, by have := HK.out.1; rw [bitsM_zero] at this; simpa using this.symm, hJs⟩⟩
    · have HBP := Lib.hid (bitsM_pos hk)
      have hk0 : ¬ (k : Int) = 0 := by omega
      have hk1 : ((k : Int) == 0) = false := by simp; omega
      have HTZ := Lib.hid (bitm.tz_any k HK.out.2 hk wr HS.out.2)
      have hpf : pre ++ [Lib.ctz 64 k] <+: bitsM m := by rw [HK.out.1, HBP.out]; exact ⟨bitsM (k &&& (k - 1)), by simp⟩
      obtain ⟨z, hz⟩ : ∃ z, Lib.ctz 64 k = z := ⟨_, rfl⟩
      rw [hz] at HTZ HBP hpf
      have hsb : IntKind.u64.wrap ((k : Int) - 1) = ((k - 1 : Nat) : Int) := by rw [IntKind.wrap_u64]; have := HK.out.2; omega
      have han := bits_and_u64_nat k (k - 1) HK.out.2 (by have := HK.out.2; omega)
      have HKM : Hid (k &&& (k - 1) < k) := Lib.hid (by have : k &&& (k - 1) ≤ k - 1 := Nat.and_le_right; omega)
      obtain ⟨k', hk'⟩ : ∃ k', k &&& (k - 1) = k' := ⟨_, rfl⟩
      obtain ⟨p, hp⟩ : ∃ p, k - 1 = p := ⟨_, rfl⟩
      rw [hk'] at han HBP HKM
      rw [hp] at han hsb
      clear hz hk hk' hp
      obtain ⟨fn, tmps, assign, body, hy, hR⟩ := hY pre z wr hJs hpf
      gi_wp2_with (refine ⟨trivial, ?_⟩; gi_at_call 58; refine (callsIn_wide.2 HTZ.out).mono ?_; rintro e w1 ⟨rfl, rfl⟩)
      refine hR.mono ?_
      rintro e W3 (⟨rfl, hJ3, hk3⟩ | ⟨rfl, hJx3⟩)
      · have hB3 := hk3.blk HS.out.1 (by simp)
        have HT3 := Lib.hid (tab_heap HS.out.2 (hk3.2 0 (by simp)))
        have c3 : W3.cell? ⟨b, 0, none⟩ = some (.int .u64 (k : Int)) := hB3.cell rfl
        have f3 := hB3.free 0
        have HBB := Lib.hid (hB3.set 0 (.int .u64 (k' : Int)))
        have HJ4 := hJ _ _ (W3.setCell ⟨b, 0, none⟩ (.int .u64 (k' : Int))) hJ3 ((Chg.refl [b] W3).setCell (.inl (by simp)) _)
        have HT4 : Hid (bitm.Tab (W3.setCell ⟨b, 0, none⟩ (.int .u64 (k' : Int)))) := Lib.hid (tab_heap HT3.out (((Chg.refl [b] W3).setCell (p := ⟨b, 0, none⟩) (.inl (by simp)) _).block 0 (Nat.lt_of_le_of_lt (Nat.zero_le _) hB3.lt) (by have := HB0.out; simp; omega)))
        clear hB3 hk3 hJ3
        gi_wp2
        go_roundw
        case rel => exact ⟨pre ++ [z], k', Lib.hid ⟨by rw [HK.out.1, HBP.out]; simp, by have := HKM.out; have := HK.out.2; omega⟩, Lib.hid ⟨HBB.out, HT4.out⟩, HJ4⟩
        case measure => rw [boxNat_of HBB.out, boxNat_of HS.out.1]; exact HKM.out
      · gi_wp2
        refine bodyPost_ret (results_none rfl _ _ _) rfl ?_
        exact ⟨⟨_, rfl⟩, .inr ⟨pre ++ [z], hpf, hJx3⟩⟩
end Go.Proofs.YtfkokbeloenfdaaDoor.krn
