import Derived.Test.YtphfnjcboellhaaGreatDoorWvLoom
import Derived.Test.YtphfnjcboellhaaGreatDoorFourB
import Derived.Test.YtphfnjcboellhaaGreatDoorSeqB
import Derived.Test.YtphfnjcboellhaaGreatDoorRing3
import Derived.Test.YtphfnjcboellhaaGreatDoorCab3
import Derived.Test.YtphfnjcboellhaaGreatDoorChen3
import Derived.Test.YtphfnjcboellhaaGreatDoorFifo3
import Derived.Test.YtphfnjcboellhaaGreatDoorWvTurn
import Derived.Test.YtphfnjcboellhaaGreatDoorLay3
namespace Go.Proofs.YtphfnjcboellhaaGreatDoor.wv
open Go Go.RowKit kit obj mem core
set_option maxRecDepth 100000
def LayO (k w s c st : Int) (ia : Option Addr) (il ic : Nat) (wri : Int) (ra : Option Addr) (rl rc : Nat) (ini L : List Int) : Prop :=
 (∀ u, ReadsW u (.slice ia il ic) ini -> Calls Tryz.prog 30 #[.agg #[.int .i64 k, .int .i64 w, .int .i64 s, .int .i64 c, .int .u32 st, .slice ia il ic, .int .i64 wri, .slice ra rl rc]] u fun e W' => ∃ v, e = .returned v /\ OwnW W' u.heap.size v L /\ Chg [] u W') ∧
 (L.length : Int) = rop.sizeI k w s c st il rl /\ ∀ z ∈ L, (Lit.int .u32 z).wf = true
theorem fill_mem {N F : Nat} {st z : Int} {ini : List Int} (h : z ∈ mem.fillL ((List.replicate N 0).set 0 st) F ini) : z = 0 \/ z = st \/ z ∈ ini := by
 have hs : ∀ y, y ∈ (List.replicate N (0 : Int)).set 0 st -> y = 0 \/ y = st := fun y hy => by
  rcases List.mem_or_eq_of_mem_set hy with h1 | h1
  · exact .inl (List.eq_of_mem_replicate h1)
  · exact .inr h1
 simp only [mem.fillL, List.mem_append] at h
 rcases h with h | h | h
 · rcases hs z (List.mem_of_mem_take h) with h1 | h1
   · exact .inl h1
   · exact .inr (.inl h1)
 · exact .inr (.inr h)
 · rcases hs z (List.mem_of_mem_drop h) with h1 | h1
   · exact .inl h1
   · exact .inr (.inl h1)
theorem fill0_mem {N F : Nat} {z : Int} {ini : List Int} (h : z ∈ mem.fillL (List.replicate N 0) F ini) : z = 0 \/ z ∈ ini := by
 simp only [mem.fillL, List.mem_append] at h
 rcases h with h | h | h
 · exact .inl (List.eq_of_mem_replicate (List.mem_of_mem_take h))
 · exact .inr h
 · exact .inl (List.eq_of_mem_replicate (List.mem_of_mem_drop h))
set_option maxHeartbeats 4000000 in
theorem layO_four (k w s c st : Int) (ia : Option Addr) (il ic : Nat) (wri : Int) (ra : Option Addr) (rl rc : Nat) (ini : List Int) (h : ObjW k w s c st il rl) (hk : k = 1) (hrb : rightB k w s c st il rl = true) (W : World) (hi : ReadsW W (.slice ia il ic) ini) : LayO k w s c st ia il ic wri ra rl rc ini (four.layL w.toNat ini) := by
 have hr : (decide (k = 1) && rightB k w s c st il rl) = true := by rw [hrb, decide_eq_true hk]; rfl
 have hbd := rightB_bd hrb
 obtain ⟨wN, hw⟩ : ∃ wN : Nat, w = (wN : Int) := ⟨w.toNat, by omega⟩
 have hsi : rop.sizeI k w s c st il rl = ((4 + 4 * wN : Nat) : Int) := by
  unfold rop.sizeI
  rw [if_pos hrb]
  simp only [rightB, decide_eq_true_eq] at hrb; simp [rop.headI, rop.recordsI, hk]; omega
 have hhd : rop.headI k rl = ((4 : Nat) : Int) := by simp [rop.headI, hk]
 have hil : ini.length = wN /\ st % 2 = 0 := by
  have h1 : il = ini.length := by obtain ⟨_, _, he, _⟩ := reads_slice hi.1; simp at he; exact he.2.1
  simp only [rightB, decide_eq_true_eq] at hrb
  omega
 have hly := fun u (hu : ReadsW u (.slice ia il ic) ini) => four.Lay_yes k w s c st ia il ic wri ra rl rc wN hw ini h hr u hu
 have hwN : w.toNat = wN := by omega
 rw [hwN]
 refine ⟨fun u hu => ?_, ?_, fun z hz => ?_⟩
 · have HCA : Hid (Chg [] u (u.alloc (.cells #[.int .i64 k, .int .i64 w, .int .i64 s, .int .i64 c, .int .u32 st, .slice ia il ic, .int .i64 wri, .slice ra rl rc] 26))) := hid ((Chg.refl _ _).alloc _)
   have HLY := hid (hly (u.alloc (.cells #[.int .i64 k, .int .i64 w, .int .i64 s, .int .i64 c, .int .u32 st, .slice ia il ic, .int .i64 wri, .slice ra rl rc] 26)) (hu.chg HCA.out))
   subst hk
   generalize (four.layL wN ini) = L at *
   clear hwN hly hil hhd hsi hr hbd hrb hi h hu hw
   go_enter Tryz.func30, Tryz.ntmps30
   go_wp2_with (go_at_call 51; refine HLY.out.mono ?_; rintro e w1 ⟨v, rfl, ho, hc⟩; have HO := hid ho; have HC := hid hc; clear ho hc)
   go_ret
   exact ⟨_, rfl, mem.own_base HO.out HCA.out.size, HCA.out.trans HC.out⟩
 · rw [hsi]
   have := hil.1
   simp [four.layL]; omega
 · have h2 := hi.2
   have h3 := h.st32
   simp only [four.layL, List.mem_append] at hz
   rcases hz with hz | hz | hz
   · rw [List.eq_of_mem_replicate hz]; decide
   · exact h2 z hz
   · rw [List.eq_of_mem_replicate hz]; decide
set_option maxHeartbeats 4000000 in
theorem layO_chen (k w s c st : Int) (ia : Option Addr) (il ic : Nat) (wri : Int) (ra : Option Addr) (rl rc : Nat) (ini : List Int) (h : ObjW k w s c st il rl) (hk : k = 2) (hrb : rightB k w s c st il rl = true) (W : World) (hi : ReadsW W (.slice ia il ic) ini) : LayO k w s c st ia il ic wri ra rl rc ini (chen.layL w rl ini) := by
 have hr : (decide (k = 2) && rightB k w s c st il rl) = true := by rw [hrb, decide_eq_true hk]; rfl
 have hbd := rightB_bd hrb
 obtain ⟨wN, hw⟩ : ∃ wN : Nat, w = (wN : Int) := ⟨w.toNat, by omega⟩
 have hmb := chen.mul_bd (c := (rl : Int) + 2) (w := w) (m := 16) ⟨by omega, by omega⟩ ⟨by omega, by omega⟩ (by omega)
 have hsi : rop.sizeI k w s c st il rl = ((1 + rl + (((rl : Int) + 2) * w).toNat : Nat) : Int) := by
  unfold rop.sizeI
  rw [if_pos hrb]
  have e1 : rop.headI k rl = 1 + rl := by simp [rop.headI, hk]
  have e2 : rop.recordsI k s rl = (rl : Int) + 2 := by simp [rop.recordsI, hk]
  rw [e1, e2]
  omega
 have hhd : rop.headI k rl = ((((1 + rl)) : Nat) : Int) := by simp [rop.headI, hk]
 have hil : ini.length = wN /\ st = 0 := by
  have h1 : il = ini.length := by obtain ⟨_, _, he, _⟩ := reads_slice hi.1; simp at he; exact he.2.1
  simp only [rightB, decide_eq_true_eq] at hrb
  omega
 have hly := fun u (hu : ReadsW u (.slice ia il ic) ini) => chen.Lay_yes k w s c st ia il ic wri ra rl rc wN hw ini h hr u hu
 refine ⟨fun u hu => ?_, ?_, fun z hz => ?_⟩
 · have HCA : Hid (Chg [] u (u.alloc (.cells #[.int .i64 k, .int .i64 w, .int .i64 s, .int .i64 c, .int .u32 st, .slice ia il ic, .int .i64 wri, .slice ra rl rc] 26))) := hid ((Chg.refl _ _).alloc _)
   have HLY := hid (hly (u.alloc (.cells #[.int .i64 k, .int .i64 w, .int .i64 s, .int .i64 c, .int .u32 st, .slice ia il ic, .int .i64 wri, .slice ra rl rc] 26)) (hu.chg HCA.out))
   subst hk
   generalize (chen.layL w rl ini) = L at *
   clear hly hil hhd hsi hr hbd hrb hi h hu hw hmb
   go_enter Tryz.func30, Tryz.ntmps30
   go_wp2_with (go_at_call 52; refine HLY.out.mono ?_; rintro e w1 ⟨v, rfl, ho, hc⟩; have HO := hid ho; have HC := hid hc; clear ho hc)
   go_ret
   exact ⟨_, rfl, mem.own_base HO.out HCA.out.size, HCA.out.trans HC.out⟩
 · rw [hsi]
   have := hil.1
   have h3 : (ini.length : Int) <= ((rl : Int) + 2) * w := by
    have h4 : 1 * w <= ((rl : Int) + 2) * w := Int.mul_le_mul_of_nonneg_right (by omega) (by omega)
    omega
   simp [chen.layL, mem.fillL]; omega
 · have h2 := hi.2
   have h3 := h.st32
   rcases fill0_mem hz with rfl | hz
   · decide
   · exact h2 z hz
set_option maxHeartbeats 4000000 in
theorem layO_seq (k w s c st : Int) (ia : Option Addr) (il ic : Nat) (wri : Int) (ra : Option Addr) (rl rc : Nat) (ini : List Int) (h : ObjW k w s c st il rl) (hk : k = 3) (hrb : rightB k w s c st il rl = true) (W : World) (hi : ReadsW W (.slice ia il ic) ini) : LayO k w s c st ia il ic wri ra rl rc ini (seq.layL st ini) := by
 have hr : (decide (k = 3) && rightB k w s c st il rl) = true := by rw [hrb, decide_eq_true hk]; rfl
 have hbd := rightB_bd hrb
 obtain ⟨wN, hw⟩ : ∃ wN : Nat, w = (wN : Int) := ⟨w.toNat, by omega⟩
 have hsi : rop.sizeI k w s c st il rl = ((1 + wN : Nat) : Int) := by
  unfold rop.sizeI
  rw [if_pos hrb]
  simp only [rightB, decide_eq_true_eq] at hrb; simp [rop.headI, rop.recordsI, hk]; omega
 have hhd : rop.headI k rl = ((1 : Nat) : Int) := by simp [rop.headI, hk]
 have hil : ini.length = wN /\ st % 2 = 0 := by
  have h1 : il = ini.length := by obtain ⟨_, _, he, _⟩ := reads_slice hi.1; simp at he; exact he.2.1
  simp only [rightB, decide_eq_true_eq] at hrb
  omega
 have hly := fun u (hu : ReadsW u (.slice ia il ic) ini) => seq.Lay_yes k w s c st ia il ic wri ra rl rc wN hw ini h hr u hu
 refine ⟨fun u hu => ?_, ?_, fun z hz => ?_⟩
 · have HCA : Hid (Chg [] u (u.alloc (.cells #[.int .i64 k, .int .i64 w, .int .i64 s, .int .i64 c, .int .u32 st, .slice ia il ic, .int .i64 wri, .slice ra rl rc] 26))) := hid ((Chg.refl _ _).alloc _)
   have HLY := hid (hly (u.alloc (.cells #[.int .i64 k, .int .i64 w, .int .i64 s, .int .i64 c, .int .u32 st, .slice ia il ic, .int .i64 wri, .slice ra rl rc] 26)) (hu.chg HCA.out))
   subst hk
   generalize (seq.layL st ini) = L at *
   clear hly hil hhd hsi hr hbd hrb hi h hu hw
   go_enter Tryz.func30, Tryz.ntmps30
   go_wp2_with (go_at_call 53; refine HLY.out.mono ?_; rintro e w1 ⟨v, rfl, ho, hc⟩; have HO := hid ho; have HC := hid hc; clear ho hc)
   go_ret
   exact ⟨_, rfl, mem.own_base HO.out HCA.out.size, HCA.out.trans HC.out⟩
 · rw [hsi]
   have := hil.1
   simp [seq.layL]; omega
 · have h2 := hi.2
   have h3 := h.st32
   simp only [seq.layL, List.mem_cons] at hz
   rcases hz with rfl | hz
   · exact core.u32_wf h3
   · exact h2 z hz
set_option maxHeartbeats 4000000 in
theorem layO_ring (k w s c st : Int) (ia : Option Addr) (il ic : Nat) (wri : Int) (ra : Option Addr) (rl rc : Nat) (ini : List Int) (h : ObjW k w s c st il rl) (hk : k = 4) (hrb : rightB k w s c st il rl = true) (W : World) (hi : ReadsW W (.slice ia il ic) ini) : LayO k w s c st ia il ic wri ra rl rc ini (ring.layL s w st ini) := by
 have hr : (decide (k = 4) && rightB k w s c st il rl) = true := by rw [hrb, decide_eq_true hk]; rfl
 have hbd := rightB_bd hrb
 obtain ⟨wN, hw⟩ : ∃ wN : Nat, w = (wN : Int) := ⟨w.toNat, by omega⟩
 have hs16 : 2 <= s /\ s <= 16 := by subst hk; simp only [rightB, decide_eq_true_eq] at hrb; omega
 have hmb := ring.mul_bd (c := s) (w := w) (m := 16) ⟨by omega, hs16.2⟩ ⟨by omega, by omega⟩ (by omega)
 have hsi : rop.sizeI k w s c st il rl = (((1 + s * w).toNat : Nat) : Int) := by
  unfold rop.sizeI
  rw [if_pos hrb]
  have e1 : rop.headI k rl = 1 := by simp [rop.headI, hk]
  have e2 : rop.recordsI k s rl = s := by simp [rop.recordsI, hk]
  rw [e1, e2]
  omega
 have hhd : rop.headI k rl = ((1 : Nat) : Int) := by simp [rop.headI, hk]
 have hil : ini.length = wN /\ True := by
  have h1 : il = ini.length := by obtain ⟨_, _, he, _⟩ := reads_slice hi.1; simp at he; exact he.2.1
  simp only [rightB, decide_eq_true_eq] at hrb
  exact ⟨by omega, trivial⟩
 have hly := fun u (hu : ReadsW u (.slice ia il ic) ini) => ring.Lay_yes k w s c st ia il ic wri ra rl rc wN hw ini h hr u hu
 have hem := Int.emod_nonneg st (show s ≠ 0 by omega)
 have hsl : st % s = (((st % s).toNat : Nat) : Int) := by omega
 have hmn := Int.mul_nonneg hem (show 0 <= w by omega)
 have hsw : (((st % s).toNat : Nat) : Int) * w = ((((st % s) * w).toNat : Nat) : Int) := by rw [<- hsl]; omega
 have hhp : 1 + ((st % s) * w).toNat = (1 + (st % s) * w).toNat := by omega
 refine ⟨fun u hu => ?_, ?_, fun z hz => ?_⟩
 · have HCA : Hid (Chg [] u (u.alloc (.cells #[.int .i64 k, .int .i64 w, .int .i64 s, .int .i64 c, .int .u32 st, .slice ia il ic, .int .i64 wri, .slice ra rl rc] 26))) := hid ((Chg.refl _ _).alloc _)
   have HLY := hid (hly (u.alloc (.cells #[.int .i64 k, .int .i64 w, .int .i64 s, .int .i64 c, .int .u32 st, .slice ia il ic, .int .i64 wri, .slice ra rl rc] 26)) (hu.chg HCA.out))
   subst hk
   generalize (ring.layL s w st ini) = L at *
   clear hly hil hhd hsi hr hbd hrb hi h hu hw hs16 hmb hem hsl hmn hsw hhp
   go_enter Tryz.func30, Tryz.ntmps30
   go_wp2_with (go_at_call 54; refine HLY.out.mono ?_; rintro e w1 ⟨v, rfl, ho, hc⟩; have HO := hid ho; have HC := hid hc; clear ho hc)
   go_ret
   exact ⟨_, rfl, mem.own_base HO.out HCA.out.size, HCA.out.trans HC.out⟩
 · rw [hsi]
   have h1 := hil.1
   have h4 := Int.emod_lt_of_pos st (show 0 < s by omega)
   have h5 : (st % s + 1) * w <= s * w := Int.mul_le_mul_of_nonneg_right (by omega) (by omega)
   rw [Int.add_mul, Int.one_mul] at h5
   simp [ring.layL, mem.fillL]; omega
 · have h2 := hi.2
   have h3 := h.st32
   rcases fill_mem hz with rfl | rfl | hz
   · decide
   · exact core.u32_wf h3
   · exact h2 z hz
set_option maxHeartbeats 4000000 in
theorem layO_cab (k w s c st : Int) (ia : Option Addr) (il ic : Nat) (wri : Int) (ra : Option Addr) (rl rc : Nat) (ini : List Int) (h : ObjW k w s c st il rl) (hk : k = 5) (hrb : rightB k w s c st il rl = true) (W : World) (hi : ReadsW W (.slice ia il ic) ini) : LayO k w s c st ia il ic wri ra rl rc ini (cab.layL s w rl ini) := by
 have hr : (decide (k = 5) && rightB k w s c st il rl) = true := by rw [hrb, decide_eq_true hk]; rfl
 have hbd := rightB_bd hrb
 obtain ⟨wN, hw⟩ : ∃ wN : Nat, w = (wN : Int) := ⟨w.toNat, by omega⟩
 have hs16 : 3 <= s /\ s <= 16 := by subst hk; simp only [rightB, decide_eq_true_eq] at hrb; omega
 have hmb := cab.mul_bd (c := s) (w := w) (m := 16) ⟨by omega, hs16.2⟩ ⟨by omega, by omega⟩ (by omega)
 have hsi : rop.sizeI k w s c st il rl = ((1 + rl + (s * w).toNat : Nat) : Int) := by
  unfold rop.sizeI
  rw [if_pos hrb]
  have e1 : rop.headI k rl = 1 + rl := by simp [rop.headI, hk]
  have e2 : rop.recordsI k s rl = s := by simp [rop.recordsI, hk]
  rw [e1, e2]
  omega
 have hhd : rop.headI k rl = ((((1 + rl)) : Nat) : Int) := by simp [rop.headI, hk]
 have hil : ini.length = wN /\ st = 0 := by
  have h1 : il = ini.length := by obtain ⟨_, _, he, _⟩ := reads_slice hi.1; simp at he; exact he.2.1
  simp only [rightB, decide_eq_true_eq] at hrb
  omega
 have hly := fun u (hu : ReadsW u (.slice ia il ic) ini) => cab.Lay_yes k w s c st ia il ic wri ra rl rc wN hw ini h hr u hu
 refine ⟨fun u hu => ?_, ?_, fun z hz => ?_⟩
 · have HCA : Hid (Chg [] u (u.alloc (.cells #[.int .i64 k, .int .i64 w, .int .i64 s, .int .i64 c, .int .u32 st, .slice ia il ic, .int .i64 wri, .slice ra rl rc] 26))) := hid ((Chg.refl _ _).alloc _)
   have HLY := hid (hly (u.alloc (.cells #[.int .i64 k, .int .i64 w, .int .i64 s, .int .i64 c, .int .u32 st, .slice ia il ic, .int .i64 wri, .slice ra rl rc] 26)) (hu.chg HCA.out))
   subst hk
   generalize (cab.layL s w rl ini) = L at *
   clear hly hil hhd hsi hr hbd hrb hi h hu hw hs16 hmb
   go_enter Tryz.func30, Tryz.ntmps30
   go_wp2_with (go_at_call 55; refine HLY.out.mono ?_; rintro e w1 ⟨v, rfl, ho, hc⟩; have HO := hid ho; have HC := hid hc; clear ho hc)
   go_ret
   exact ⟨_, rfl, mem.own_base HO.out HCA.out.size, HCA.out.trans HC.out⟩
 · rw [hsi]
   have := hil.1
   have h3 : (ini.length : Int) <= s * w := by
    have h4 : 1 * w <= s * w := Int.mul_le_mul_of_nonneg_right (by omega) (by omega)
    omega
   simp [cab.layL, mem.fillL]; omega
 · have h2 := hi.2
   have h3 := h.st32
   rcases fill0_mem hz with rfl | hz
   · decide
   · exact h2 z hz
set_option maxHeartbeats 4000000 in
theorem layO_fifo (k w s c st : Int) (ia : Option Addr) (il ic : Nat) (wri : Int) (ra : Option Addr) (rl rc : Nat) (ini : List Int) (h : ObjW k w s c st il rl) (hk : k = 6) (hrb : rightB k w s c st il rl = true) (W : World) (hi : ReadsW W (.slice ia il ic) ini) : LayO k w s c st ia il ic wri ra rl rc ini (fifo.layL s w st) := by
 have hr : (decide (k = 6) && rightB k w s c st il rl) = true := by rw [hrb, decide_eq_true hk]; rfl
 have hbd := rightB_bd hrb
 obtain ⟨wN, hw⟩ : ∃ wN : Nat, w = (wN : Int) := ⟨w.toNat, by omega⟩
 have hs16 : 1 <= s /\ s <= 16 := by subst hk; simp only [rightB, decide_eq_true_eq] at hrb; omega
 have hmb := fifo.mul_bd (c := s) (w := w) (m := 16) ⟨by omega, hs16.2⟩ ⟨by omega, by omega⟩ (by omega)
 have hsi : rop.sizeI k w s c st il rl = (((2 + s * w).toNat : Nat) : Int) := by
  unfold rop.sizeI
  rw [if_pos hrb]
  have e1 : rop.headI k rl = 2 := by simp [rop.headI, hk]
  have e2 : rop.recordsI k s rl = s := by simp [rop.recordsI, hk]
  rw [e1, e2]
  omega
 have hhd : rop.headI k rl = ((2 : Nat) : Int) := by simp [rop.headI, hk]
 have hil : True := trivial
 have hly := fun u (hu : ReadsW u (.slice ia il ic) ini) => fifo.Lay_yes k w s c st ia il ic wri ra rl rc wN hw h hr u
 refine ⟨fun u hu => ?_, ?_, fun z hz => ?_⟩
 · have HCA : Hid (Chg [] u (u.alloc (.cells #[.int .i64 k, .int .i64 w, .int .i64 s, .int .i64 c, .int .u32 st, .slice ia il ic, .int .i64 wri, .slice ra rl rc] 26))) := hid ((Chg.refl _ _).alloc _)
   have HLY := hid (hly (u.alloc (.cells #[.int .i64 k, .int .i64 w, .int .i64 s, .int .i64 c, .int .u32 st, .slice ia il ic, .int .i64 wri, .slice ra rl rc] 26)) (hu.chg HCA.out))
   subst hk
   generalize (fifo.layL s w st) = L at *
   clear hly hil hhd hsi hr hbd hrb hi h hu hw hs16 hmb
   go_enter Tryz.func30, Tryz.ntmps30
   go_wp2_with (go_at_call 56; refine HLY.out.mono ?_; rintro e w1 ⟨v, rfl, ho, hc⟩; have HO := hid ho; have HC := hid hc; clear ho hc)
   go_ret
   exact ⟨_, rfl, mem.own_base HO.out HCA.out.size, HCA.out.trans HC.out⟩
 · rw [hsi]
   simp [fifo.layL]
 · have h2 := hi.2
   have h3 := h.st32
   rcases List.mem_or_eq_of_mem_set hz with hz | rfl
   · rcases List.mem_or_eq_of_mem_set hz with hz | rfl
     · rw [List.eq_of_mem_replicate hz]; decide
     · exact core.u32_wf h3
   · exact core.u32_wf h3
set_option maxRecDepth 20000
theorem szTodos : (Tryz.prog.info? 41).map (·.size) = some 1 := by kernel_rfl
structure Pr where
 (a : Option Addr) (c : Nat) (l : List Td)
def Pr.val (p : Pr) : Value := .slice p.a p.l.length p.c
def Pr.cells (p : Pr) : List Value := [p.val]
structure ProcsR (W : World) (pv : Value) (ps : List Pr) : Prop where
 row : Reads W 1 pv ps.length (ps.flatMap Pr.cells)
 each : ∀ p ∈ ps, Reads W 2 p.val p.l.length (p.l.flatMap Td.cells)
 recs : ∀ p ∈ ps, ∀ t ∈ p.l, ReadsW W (.slice t.a t.wds.length t.c) t.wds
theorem ProcsR.chg {W V : World} {pv : Value} {ps : List Pr} (h : ProcsR W pv ps) (k : Chg [] W V) : ProcsR V pv ps := ⟨h.row.fresh k, fun p hp => (h.each p hp).fresh k, fun p hp t ht => (h.recs p hp t ht).chg k⟩
def TdFit (wo ro w : Int) (j : Nat) (t : Td) : Prop := (j = 0 -> t.op = wo /\ (t.wds.length : Int) = w) /\ (0 < j -> t.op = ro /\ t.wds = [])
def PsFit (wo ro w : Int) (ps : List Pr) : Prop := ∀ (j : Nat) p, ps[j]? = some p -> ∀ t ∈ p.l, TdFit wo ro w j t
theorem TdFit.ok {wo ro : Int} {o : ObV} {j : Nat} {t : Td} (h : TdFit wo ro o.w j t) (hj : j <= o.rl) : TdOK wo ro o j t := by
 by_cases h0 : j = 0
 · exact .inl ⟨(h.1 h0).1, h0, (h.1 h0).2⟩
 · exact .inr ⟨(h.2 (by omega)).1, by omega, hj, (h.2 (by omega)).2⟩
set_option maxHeartbeats 4000000 in
theorem Fault_ok (k w s c st : Int) (ia : Option Addr) (il ic : Nat) (wr_ : Int) (ra : Option Addr) (rl rc : Nat) (hk : 1 <= k /\ k <= 6) (hO : ObjW k w s c st il rl) (hB : rightB k w s c st il rl = true) {ps : List Pr} {pa : Option Addr} {pc : Nat} {W : World} (hP : ProcsR W (.slice pa ps.length pc) ps) (hlen : ps.length = rl + 1) (hfit : PsFit (wOp k) (rOp k) w ps) (hsm : ∀ p ∈ ps, p.l.length <= 1000) :
 Calls Tryz.prog 26 #[.agg #[.int .i64 k, .int .i64 w, .int .i64 s, .int .i64 c, .int .u32 st, .slice ia il ic, .int .i64 wr_, .slice ra rl rc], .slice pa ps.length pc] W fun e W' => e = .returned (.int .i64 0) /\ Chg [] W W' := by
 have hbd := rightB_bd hB
 have HBX : Hid (Blk (W.alloc (.cells #[.int .i64 k, .int .i64 w, .int .i64 s, .int .i64 c, .int .u32 st, .slice ia il ic, .int .i64 wr_, .slice ra rl rc] 26)) W.heap.size #[.int .i64 k, .int .i64 w, .int .i64 s, .int .i64 c, .int .u32 st, .slice ia il ic, .int .i64 wr_, .slice ra rl rc] 26) := hid (Blk.new W _ _)
 have HCA : Hid (Chg [] W (W.alloc (.cells #[.int .i64 k, .int .i64 w, .int .i64 s, .int .i64 c, .int .u32 st, .slice ia il ic, .int .i64 wr_, .slice ra rl rc] 26))) := hid ((Chg.refl _ _).alloc _)
 have HSH : Hid (∀ V, Calls Tryz.prog 42 #[.agg #[.int .i64 k, .int .i64 w, .int .i64 s, .int .i64 c, .int .u32 st, .slice ia il ic, .int .i64 wr_, .slice ra rl rc]] V fun e W' => e = .returned (.bool true) /\ Chg [] V W') := hid (fun V => by have := Shaped_any k w s c st ia il ic wr_ ra rl rc hk hO V; rwa [hB] at this)
 have HOP := hid (fun V => Ops_any k hk V)
 obtain ⟨wo, hwo⟩ : ∃ x, wOp k = x := ⟨_, rfl⟩
 obtain ⟨ro, hro⟩ : ∃ x, rOp k = x := ⟨_, rfl⟩
 rw [hwo, hro] at HOP hfit
 obtain ⟨b1, o1, hx1, hc1, -⟩ := reads_index (P := Tryz.prog) Tryz.underlying27 szTodos hP.row
 obtain ⟨n, hn⟩ : ∃ z, ps.length = z := ⟨_, rfl⟩
 have HN := hid (⟨hn, hlen⟩ : _ /\ _)
 have HF := hid (⟨hP, hfit, hsm⟩ : _ /\ _ /\ _)
 have hn5 : n <= 5 := by omega
 have HN5 := hid hn5
 have k1 : IntKind.i64.wrap (1 + (rl : Int)) = (n : Int) := by rw [IntKind.wrap_i64]; omega
 rw [hn] at hx1 ⊢
 have HX1 := hid hx1
 have HC1 := hid hc1
 clear hx1 hc1 hn hlen hP hfit hsm hn5 hwo hro hB hO hk hbd
 go_enter Tryz.func26, Tryz.ntmps26
 go_wp2_with (first
  | (go_at_call 42; refine (HSH.out _).mono ?_; rintro e w1 ⟨rfl, hc⟩; have HC := hid (HCA.out.trans hc); have HB1 := hid (HBX.out.keep hc (by simp)); have e0 := HB1.out.cell (o := 0) rfl; have e7 := HB1.out.cell (o := 7) rfl; clear hc)
  | (go_at_call 43; refine (HOP.out _).mono ?_; rintro e w2 ⟨rfl, rfl⟩))
 clear k1 e0 e7
 go_loopw [35] (fun i wr => ∃ j : Nat, j <= n /\ i = .int .i64 j /\ Hid (Chg [] w1 wr)) (fun i _ => n - (intOf i).toNat)
 case atStart => exact ⟨0, Nat.zero_le _, rfl, hid (Chg.refl _ _)⟩
 case round =>
  obtain ⟨j, hj, rfl, HJ⟩ := hrel
  by_cases hlt : j < n
  · have HLT := hid hlt
    have g1 := HX1.out j hlt
    obtain ⟨⟨qa, qc, ql⟩, hp⟩ : ∃ p, ps[j]? = some p := ⟨_, List.getElem?_eq_getElem (by rw [HN.out.1]; exact hlt)⟩
    have hmem := List.mem_of_getElem? hp
    have q0 := HJ.out.keep (HC.out.keep (HC1.out (j * 1 + 0) _ (by rw [flatMap_get Pr.cells 1 (fun _ => rfl) ps j 0 (by decide) _ hp]; rfl)) (by simp)) (by simp)
    rw [Nat.add_zero] at q0
    simp only [Pr.val, Nat.mul_one] at q0 g1
    obtain ⟨b2, o2, hx2, hc2, -⟩ := reads_index (P := Tryz.prog) Tryz.underlying41 szTodo (((HF.out.1.each _ hmem).fresh HC.out).fresh HJ.out)
    have hl2 : ql.length <= 1000 := HF.out.2.2 _ hmem
    have HF2 := hid (fun t (ht : t ∈ ql) => HF.out.2.1 j _ hp t ht)
    simp only [Pr.val] at hx2
    have HX2 := hid hx2
    have HC2 := hid hc2
    have HL2 := hid hl2
    have e1 := (HB1.out.keep HJ.out (by simp)).cell (o := 1) rfl
    have hj5 : (j : Int) < 5 := by have := HN5.out; omega
    have k8 : IntKind.i64.wrap ((j : Int) + 1) = (j : Int) + 1 := by rw [IntKind.wrap_i64]; omega
    clear hx2 hc2 hl2 hp hmem hlt
    obtain ⟨m2, hm2⟩ : ∃ z, ql.length = z := ⟨_, rfl⟩
    have HM2 := hid hm2
    rw [hm2] at q0 HX2 HL2
    clear hm2
    by_cases c1 : 0 < (j : Int)
    · go_wp2_with fail
      go_quiet (fail)
      go_wp2_with fail
      go_loopw [48] (fun i wr2 => ∃ m : Nat, m <= m2 /\ i = .int .i64 m /\ Hid (Chg [] wr wr2)) (fun i _ => m2 - (intOf i).toNat)
      case atStart => exact ⟨0, Nat.zero_le _, rfl, hid ((Chg.refl _ _).drewN nq)⟩
      case round =>
       obtain ⟨m, hm, rfl, HI⟩ := hrel
       by_cases hlt2 : m < m2
       · have HLT2 := hid hlt2
         have g2 := HX2.out m hlt2
         obtain ⟨⟨top, ta, tc, tw⟩, ht⟩ : ∃ t, ql[m]? = some t := ⟨_, List.getElem?_eq_getElem (by rw [HM2.out]; exact hlt2)⟩
         have r0 := HI.out.keep (HC2.out (m * 2 + 0) _ (by rw [flatMap_get Td.cells 2 (fun _ => rfl) ql m 0 (by decide) _ ht]; rfl)) (by simp)
         have r1 := HI.out.keep (HC2.out (m * 2 + 1) _ (by rw [flatMap_get Td.cells 2 (fun _ => rfl) ql m 1 (by decide) _ ht]; rfl)) (by simp)
         rw [Nat.add_zero] at r0
         rw [<- Nat.add_assoc] at r1
         obtain ⟨e1, e2⟩ := (HF2.out _ (List.mem_of_getElem? ht)).2 (by omega)
         simp only at e1 e2 r0 r1
         subst e1
         subst e2
         simp only [List.length_nil] at r1
         have hm1000 : (m : Int) < 1000 := by have := HL2.out; omega
         have k9 : IntKind.i64.wrap ((m : Int) + 1) = (m : Int) + 1 := by rw [IntKind.wrap_i64]; omega
         clear ht hm hlt2
         go_wp2_with fail
         have hltm := HLT2.out
         go_roundw
         case rel => exact ⟨m + 1, by omega, by go_num, hid (HI.out.alloc _)⟩
         case measure => simp [intOf]; omega
       · obtain rfl : m2 = m := by omega
         clear hlt2 hm
         go_wp2_with fail
         have hltj := HLT.out
         go_roundw
         case rel => exact ⟨j + 1, by omega, by go_num, hid (HJ.out.trans HI.out)⟩
         case measure => simp [intOf]; omega
    · go_wp2_with fail
      go_quiet (fail)
      go_wp2_with fail
      go_loopw [48] (fun i wr2 => ∃ m : Nat, m <= m2 /\ i = .int .i64 m /\ Hid (Chg [] wr wr2)) (fun i _ => m2 - (intOf i).toNat)
      case atStart => exact ⟨0, Nat.zero_le _, rfl, hid ((Chg.refl _ _).drewN nq)⟩
      case round =>
       obtain ⟨m, hm, rfl, HI⟩ := hrel
       by_cases hlt2 : m < m2
       · have HLT2 := hid hlt2
         have g2 := HX2.out m hlt2
         obtain ⟨⟨top, ta, tc, tw⟩, ht⟩ : ∃ t, ql[m]? = some t := ⟨_, List.getElem?_eq_getElem (by rw [HM2.out]; exact hlt2)⟩
         have r0 := HI.out.keep (HC2.out (m * 2 + 0) _ (by rw [flatMap_get Td.cells 2 (fun _ => rfl) ql m 0 (by decide) _ ht]; rfl)) (by simp)
         have r1 := HI.out.keep (HC2.out (m * 2 + 1) _ (by rw [flatMap_get Td.cells 2 (fun _ => rfl) ql m 1 (by decide) _ ht]; rfl)) (by simp)
         rw [Nat.add_zero] at r0
         rw [<- Nat.add_assoc] at r1
         obtain ⟨e1, e2⟩ := (HF2.out _ (List.mem_of_getElem? ht)).1 (by omega)
         simp only at e1 e2 r0 r1
         subst e1
         subst e2
         have hm1000 : (m : Int) < 1000 := by have := HL2.out; omega
         have k9 : IntKind.i64.wrap ((m : Int) + 1) = (m : Int) + 1 := by rw [IntKind.wrap_i64]; omega
         clear ht hm hlt2
         go_wp2_with fail
         have hltm := HLT2.out
         go_roundw
         case rel => exact ⟨m + 1, by omega, by go_num, hid (HI.out.alloc _)⟩
         case measure => simp [intOf]; omega
       · obtain rfl : m2 = m := by omega
         clear hlt2 hm
         go_wp2_with fail
         have hltj := HLT.out
         go_roundw
         case rel => exact ⟨j + 1, by omega, by go_num, hid (HJ.out.trans HI.out)⟩
         case measure => simp [intOf]; omega
  · obtain rfl : n = j := by omega
    clear hlt hj
    go_wp2_with fail
    go_ret
    exact ⟨rfl, HC.out.trans HJ.out⟩
theorem infoProc : (Tryz.prog.info? 71).map (fun i => (i.zero, i.size, i.bytes)) = some (some (.agg #[.slice none 0 0, .pointer none, .int .i64 0]), 3, 40) := by kernel_rfl
def lo0 (ws : List Int) (ps : List Pr) : Lo := ⟨ws, ps.map (fun p => ⟨p.l, none, 0⟩), [], 0⟩
def Pr.row (p : Pr) : List Value := [p.val, .pointer none, .int .i64 0]
def lv0 (lb mb : Nat) (sv : Value) (pa : Option Addr) (pc : Nat) (ps : List Pr) : LV := ⟨lb, mb, sv, 0, pa, pc, none, 0, ps.map (fun p => ⟨p.val, none⟩), []⟩
theorem rows0 (ps : List Pr) : rows (ps.map (fun p => ⟨p.val, none⟩)) (ps.map (fun p => ⟨p.l, none, 0⟩)) = ps.flatMap Pr.row := by
 unfold rows
 induction ps with
 | nil => rfl
 | cons p ps ih =>
  rw [List.map_cons, List.map_cons, List.zip_cons_cons, List.flatMap_cons, List.flatMap_cons, ih]
  rfl
theorem LoomAt.start {kk : Nat} {T : TypeId} {W V : World} {o : ObV} {ws : List Int} {ps : List Pr} {lb mb : Nat} {sv : Value} {pa : Option Addr} {pc : Nat} {pv : Value} (hP : ProcsR W pv ps)
 (hb : Blk V lb (loomCells o mb (.slice pa ps.length pc) (.slice none 0 0) 0) 59) (hr : V.ownsRow W.heap.size 71 3 (.slice pa ps.length pc) ps.length (ps.flatMap Pr.row)) (hm : MemAt V mb sv ws 0)
 (hlow : W.heap.size <= lb /\ W.heap.size <= mb /\ ∀ b, sv.ownBlock = some b -> W.heap.size <= b) (hc : Chg [] W V) : LoomAt kk T W V o (lo0 ws ps) (lv0 lb mb sv pa pc ps) := by
 have hget : ∀ (k : Nat) m x, (lo0 ws ps).ps[k]? = some m -> (lv0 lb mb sv pa pc ps).xs[k]? = some x -> ∃ p, ps[k]? = some p /\ m = ⟨p.l, none, 0⟩ /\ x = ⟨p.val, none⟩ := fun k m x h1 h2 => by
  simp only [lo0, List.getElem?_map, Option.map_eq_some_iff] at h1
  simp only [lv0, List.getElem?_map, Option.map_eq_some_iff] at h2
  obtain ⟨p, e1, rfl⟩ := h1
  obtain ⟨q, e2, rfl⟩ := h2
  rw [e1] at e2
  injection e2 with e2
  subst e2
  exact ⟨p, e1, rfl, rfl⟩
 have hop : ∀ (k : Nat) x, (lv0 lb mb sv pa pc ps).xs[k]? = some x -> x.op = none := fun k x h2 => by
  simp only [lv0, List.getElem?_map, Option.map_eq_some_iff] at h2
  obtain ⟨q, e2, rfl⟩ := h2
  rfl
 have hln : (lo0 ws ps).ps.length = ps.length := by simp [lo0]
 refine ⟨?_, ?_, ?_, ?_, rfl, hm, ?_, ?_, ?_, ?_, ?_, ?_, ?_, hc⟩
 · rw [hln]; exact hb
 · rw [hln]
   show V.ownsRow _ _ 3 _ _ (rows (ps.map _) (ps.map _))
   rw [rows0]; exact hr
 · exact ⟨rfl, .inl ⟨rfl, rfl⟩⟩
 · simp [lo0, lv0]
 · intro k m x h1 h2
   obtain ⟨p, e, rfl, rfl⟩ := hget k m x h1 h2
   have hp := List.mem_of_getElem? e
   exact ⟨hP.each p hp, hP.recs p hp⟩
 · intro k m x h1 h2
   obtain ⟨p, e, rfl, rfl⟩ := hget k m x h1 h2
   trivial
 · intro i c r h1 h2
   simp [lo0] at h1
 · intro j k x y hne h1 h2 ob bx v ob' bx' v' e1 e2
   rw [hop j x h1] at e1
   cases e1
 · intro i r k x ob bx v h1
   simp [lv0] at h1
 · intro i r h1
   simp [lv0] at h1
 · refine ⟨hlow.1, hlow.2.1, hlow.2.2, fun k x h1 b hb => ?_⟩
   rw [PV.bs, hop k x h1] at hb
   cases hb
theorem WF.start {kk : Nat} {w0 r0 : Int} {K : Kind} {o : ObV} {ws : List Int} {ps : List Pr} (hR : RightO kk o) (hF : FrOK w0 r0 K o) (hs : (ws.length : Int) = rop.sizeI o.k o.w o.s o.c o.st o.il o.rl) (hl : ps.length = o.rl + 1) (hfit : PsFit w0 r0 o.w ps) : WF kk w0 r0 K o (lo0 ws ps) := by
 have hbd := rightB_bd hR.2.2
 refine ⟨hR, hF, hs, fun k m h1 t ht => ?_, fun k m c r h1 h2 => ?_, Nat.zero_le _, by simp [lo0]; omega⟩
 · simp only [lo0, List.getElem?_map, Option.map_eq_some_iff] at h1
   obtain ⟨p, e1, rfl⟩ := h1
   exact (hfit k p e1 t ht).ok (by have := (List.getElem?_eq_some_iff.1 e1).1; omega)
 · simp only [lo0, List.getElem?_map, Option.map_eq_some_iff] at h1
   obtain ⟨p, e1, rfl⟩ := h1
   cases h2
structure Fine (L : Lo) : Prop where
 ws : ∀ z ∈ L.ws, 0 <= z /\ z <= 4294967295
 rec_ : ∀ (k : Nat) m c r, L.ps[k]? = some m -> m.o = some (c, r) -> r.length <= 1000
theorem LoomAt.fine {kk : Nat} {T : TypeId} {W V : World} {o : ObV} {L : Lo} {z : LV} (h : LoomAt kk T W V o L z) : Fine L := by
 refine ⟨fun x hx => wf_u32 (h.mem.wf x hx), fun k m c r hm ho => ?_⟩
 obtain ⟨x, hx⟩ := h.pv (List.getElem?_eq_some_iff.1 hm).1
 have hop := h.op k m x hm hx
 rw [ho] at hop
 match hxo : x.op, hop with
 | none, hop => exact (show False from hop).elim
 | some (ob, bx, v), hop => exact hop.2.short
structure CsOK (L : Lo) : Prop where
 inc : Inc L.cs
 bg : ∀ c ∈ L.cs, c.bg < L.now
 wds : ∀ c ∈ L.cs, c.wds.length <= 1000000
theorem CsOK.start (ws : List Int) (ps : List Pr) : CsOK (lo0 ws ps) := ⟨fun i j x y h => by simp [lo0] at h, fun c h => by simp [lo0] at h, fun c h => by simp [lo0] at h⟩
theorem Inc.snoc {l : List Cl} (h : Inc l) {c : Cl} (hc : ∀ x ∈ l, x.bg < c.bg) : Inc (l ++ [c]) := by
 intro i j x y hx hy hij
 rw [List.getElem?_append] at hx hy
 split at hy
 · rename_i hj
   rw [if_pos (by omega)] at hx
   exact h i j x y hx hy hij
 · rename_i hj
   have e := List.mem_singleton.1 (List.mem_of_getElem? hy)
   subst e
   have hj1 := (List.getElem?_eq_some_iff.1 hy).1
   simp only [List.length_singleton] at hj1
   rw [if_pos (by omega)] at hx
   exact hc x (List.mem_of_getElem? hx)
theorem Inc.same {l l' : List Cl} (h : Inc l) (hb : ∀ (i : Nat) y, l'[i]? = some y -> ∃ x, l[i]? = some x /\ x.bg = y.bg) : Inc l' := by
 intro i j x y hx hy hij
 obtain ⟨x', e1, e2⟩ := hb i x hx
 obtain ⟨y', e3, e4⟩ := hb j y hy
 have := h i j x' y' e1 e3 hij
 omega
theorem modify_at {l : List Cl} {k : Nat} {f : Cl -> Cl} (hf : ∀ c, (f c).bg = c.bg) : ∀ (i : Nat) y, (l.modify k f)[i]? = some y -> ∃ x, l[i]? = some x /\ x.bg = y.bg /\ (y = x \/ (i = k /\ y = f x)) := by
 intro i y hy
 rw [List.getElem?_modify] at hy
 cases hx : l[i]? with
 | none => rw [hx] at hy; simp at hy
 | some x =>
  rw [hx] at hy
  have hy : (if k = i then f x else x) = y := Option.some.inj hy
  refine ⟨x, rfl, ?_, ?_⟩
  · rw [<- hy]; split
    · exact (hf x).symm
    · rfl
  · split at hy
    · exact .inr ⟨by omega, hy.symm⟩
    · exact .inl hy.symm
theorem beginM_cs {fr : Int -> Int -> Core} {L : Lo} {k : Nat} {p p' : PM} {cs : List Cl} (h : CsOK L) (hb : beginM fr k L p = some (p', cs)) (ht : ∀ t ∈ p.left, t.wds.length <= 1000) : Inc cs /\ (∀ c ∈ cs, c.bg < (L.now : Int) + 1) /\ ∀ c ∈ cs, c.wds.length <= 1000000 := by
 unfold beginM at hb
 split at hb
 · injection hb with hb
   injection hb with h1 h2
   subst h1 h2
   exact ⟨h.inc, fun c hc => by have := h.bg c hc; omega, h.wds⟩
 · match hl : p.left, hb with
   | [], hb => cases hb
   | t :: l, hb =>
    injection hb with hb
    injection hb with h1 h2
    subst h1 h2
    refine ⟨h.inc.snoc (fun x hx => h.bg x hx), fun c hc => ?_, fun c hc => ?_⟩
    · rcases List.mem_append.1 hc with hc | hc
      · have := h.bg c hc; omega
      · rw [List.mem_singleton.1 hc]; show (L.now : Int) < _; omega
    · rcases List.mem_append.1 hc with hc | hc
      · exact h.wds c hc
      · rw [List.mem_singleton.1 hc]
        have := ht t (by rw [hl]; simp)
        show t.wds.length <= _
        omega
theorem turnM_cs {kk : Nat} {w0 r0 : Int} {K : Kind} {o : ObV} {L : Lo} (h : WF kk w0 r0 K o L) (hc : CsOK L) (mv : Value) (k : Int) (hf : Fine (turnM K mv (frO o) L k).1) : CsOK (turnM K mv (frO o) L k).1 := by
 unfold turnM at hf ⊢
 split
 · exact hc
 · rename_i hk
   rw [if_neg hk] at hf
   split
   · exact hc
   · rename_i p hp
     rw [hp] at hf
     split
     · exact hc
     · rename_i p' cs hb
       simp only [hb] at hf
       obtain ⟨i1, i2, i3⟩ := beginM_cs hc hb (fun t ht => (h.td _ p hp t ht).short h.right)
       unfold stepM at hf ⊢
       match ho : p'.o with
       | none => exact hc
       | some (x, r) =>
        simp only [ho] at hf
        simp only
        have hlen := hf.rec_ k.toNat _ _ _ (by rw [List.getElem?_set, if_pos rfl, if_pos (List.getElem?_eq_some_iff.1 hp).1]) rfl
        split
        · have hm := modify_at (l := cs) (k := p'.call) (f := endC k.toNat L.now (K.step x mv r L.ws).1 (K.step x mv r L.ws).2.1) (fun c => rfl)
          refine ⟨i1.same (fun i y hy => by obtain ⟨x', e1, e2, _⟩ := hm i y hy; exact ⟨x', e1, e2⟩), fun c hc => ?_, fun c hc => ?_⟩
          · obtain ⟨i, hi, e⟩ := List.getElem_of_mem hc
            obtain ⟨x', e1, e2, _⟩ := hm i c (List.getElem?_eq_some_iff.2 ⟨hi, e⟩)
            have := i2 x' (List.mem_of_getElem? e1)
            show c.bg < ((L.now + 1 : Nat) : Int)
            omega
          · obtain ⟨i, hi, e⟩ := List.getElem_of_mem hc
            obtain ⟨x', e1, e2, e3⟩ := hm i c (List.getElem?_eq_some_iff.2 ⟨hi, e⟩)
            have h4 := i3 x' (List.mem_of_getElem? e1)
            rcases e3 with rfl | ⟨_, rfl⟩
            · exact h4
            · show (if 0 < k.toNat then _ else x'.wds).length <= _
              split
              · omega
              · exact h4
        · exact ⟨i1, fun c hc => by show c.bg < ((L.now + 1 : Nat) : Int); have := i2 c hc; omega, i3⟩
def Good (kk : Nat) (w0 r0 : Int) (K : Kind) (o : ObV) (mv : Value) (L : Lo) (ts : List Int) : Prop := ∀ j, j <= ts.length -> WF kk w0 r0 K o (turnsM K mv (frO o) L (ts.take j)) /\ Fine (turnsM K mv (frO o) L (ts.take j)) /\ CsOK (turnsM K mv (frO o) L (ts.take j))
section
variable {kk : Nat} {w0 r0 : Int} {K : Kind} {o : ObV} {mv : Value} {L : Lo} {ts : List Int}
theorem Good.last (h : Good kk w0 r0 K o mv L ts) : WF kk w0 r0 K o (turnsM K mv (frO o) L ts) /\ Fine (turnsM K mv (frO o) L ts) /\ CsOK (turnsM K mv (frO o) L ts) := by
 have := h ts.length (Nat.le_refl _)
 rwa [List.take_length] at this
theorem Good.nil (h1 : WF kk w0 r0 K o L) (h2 : Fine L) (h3 : CsOK L) : Good kk w0 r0 K o mv L [] := fun j hj => by
 rw [List.take_nil]
 exact ⟨h1, h2, h3⟩
theorem Good.snoc (h : Good kk w0 r0 K o mv L ts) {k : Int} (hf : Fine (turnsM K mv (frO o) L (ts ++ [k]))) : Good kk w0 r0 K o mv L (ts ++ [k]) := fun j hj => by
 rw [List.length_append, List.length_singleton] at hj
 by_cases hj2 : j <= ts.length
 · rw [List.take_append_of_le_length hj2]
   exact h j hj2
 · obtain rfl : j = ts.length + 1 := by omega
   rw [show (ts ++ [k]).take (ts.length + 1) = ts ++ [k] from List.take_of_length_le (by simp)]
   obtain ⟨h1, h2, h3⟩ := h.last
   rw [turnsM_snoc] at hf ⊢
   exact ⟨turnM_wf h1 mv k h2.ws, hf, turnM_cs h1 h3 mv k hf⟩
end
def loomCells0 (o : ObV) (mv pv cv : Value) (now : Int) : Array Value := #[.int .i64 o.k, .int .i64 o.w, .int .i64 o.s, .int .i64 o.c, .int .u32 o.st, .slice o.ia o.il o.ic, .int .i64 o.wr, .slice o.ra o.rl o.rc, mv, pv, cv, .int .i64 now]
theorem proc_cells (w : World) (v u : Value) (i : Int) : ∀ (j : Nat) x, [v, u, .int .i64 i][j]? = some x -> (w.alloc (.cells #[v, u, .int .i64 i] 71)).cell? ((⟨w.heap.size, 0, none⟩ : Addr).add j) = some x := by
 intro j x hj
 rw [kit.add_plain, Nat.zero_add]
 exact (Blk.new w _ _).cell (by rw [<- Array.getElem?_toList]; exact hj)
set_option maxHeartbeats 8000000 in
theorem run_ok {kk : Nat} {T : TypeId} {w0 r0 : Int} {K : Kind} (H : Ops kk K T frO (RightO kk) w0 r0) (t : TyOK T) (o : ObV) (hR : RightO kk o) (hF : FrOK w0 r0 K o) (hw0 : wOp o.k = w0) (hr0 : rOp o.k = r0) {ini ws : List Int} (hL : LayO o.k o.w o.s o.c o.st o.ia o.il o.ic o.wr o.ra o.rl o.rc ini ws) {ps : List Pr} {pa : Option Addr} {pc : Nat} {ts : List Int} {qa : Option Addr} {qc : Nat} {W : World} (ht : bitm.Tab W) (hP : ProcsR W (.slice pa ps.length pc) ps) (hlen : ps.length = o.rl + 1) (hfit : PsFit w0 r0 o.w ps) (hsm : ∀ p ∈ ps, p.l.length <= 1000) (hI : ReadsW W (.slice o.ia o.il o.ic) ini) (hT : Reads W 1 (.slice qa ts.length qc) ts.length (ts.map (Value.int .i64))) (htl : ts.length <= 1000) :
 Calls Tryz.prog 19 #[.agg o.cells.toArray, .slice pa ps.length pc, .slice qa ts.length qc] W fun e V => ∃ z, e = .returned (.tuple #[.pointer (some ⟨z.lb, 0, none⟩), .int .i64 0]) /\ LoomAt kk T W V o (turnsM K (.pointer (some ⟨z.mb, 0, none⟩)) (frO o) (lo0 ws ps) ts) z /\ Good kk w0 r0 K o (.pointer (some ⟨z.mb, 0, none⟩)) (lo0 ws ps) ts /\ 0 <= z.nm /\ z.nm <= ts.length := by
 have hWF := WF.start hR hF hL.2.1 hlen hfit
 have hkO : 1 <= o.k /\ o.k <= 6 := by have := rightB_bd hR.2.2; have := hR.1; omega
 have hOW := hR.2.1
 have hBB : rightB o.k o.w o.s o.c o.st o.il o.rl = true := by have := hR.2.2; rwa [<- hR.1] at this
 have hfa := fun V (hc : Chg [] W V) => Fault_ok o.k o.w o.s o.c o.st o.ia o.il o.ic o.wr o.ra o.rl o.rc hkO hOW hBB (hP.chg hc) hlen (by rw [hw0, hr0]; exact hfit) hsm
 have hsi := fun V => lay.oSize_any o.k o.w o.s o.c o.st o.ia o.il o.ic o.wr o.ra o.rl o.rc hOW V
 rw [<- hL.2.1] at hsi
 have hly := fun u (hc : Chg [] W u) => hL.1 u (hI.chg hc)
 have hws : ws.length <= 4096 := by
  have h1 := lay.Ob.size_bd ⟨o.k, o.w, o.s, o.c, o.st, o.ia, o.il, o.ic, o.wr, o.ra, o.rl, o.rc⟩
  have h2 := hL.2.1
  simp only [lay.Ob.size] at h1
  omega
 have HFA := hid hfa
 have HSI := hid hsi
 have HLY := hid hly
 have HWS := hid hws
 have HM := hid (⟨hWF, ht, hP, hlen, hT, htl, hL.2.2⟩ : _ /\ _ /\ _ /\ _ /\ _ /\ _ /\ _)
 have HTA := hid (⟨H, t⟩ : _ /\ _)
 obtain ⟨b1, o1, hx1, hc1, -⟩ := reads_index (P := Tryz.prog) Tryz.underlying27 szTodos hP.row
 obtain ⟨b2, o2, hx2, hc2, -⟩ := reads_index (P := Tryz.prog) Tryz.underlying24 lay.szInt hT
 have HX1 := hid hx1
 have HC1 := hid hc1
 have HX2 := hid hx2
 have HC2 := hid hc2
 have hn5 : ps.length <= 5 := by have := rightB_bd hBB; omega
 have HN5 := hid hn5
 clear hx1 hc1 hx2 hc2 hfa hsi hly hws hWF hkO hOW hBB hn5 H t hR hF hw0 hr0 hL ht hP hlen hfit hsm hI hT htl
 have HBX : Hid (Blk (W.alloc (.cells #[.int .i64 o.k, .int .i64 o.w, .int .i64 o.s, .int .i64 o.c, .int .u32 o.st, .slice o.ia o.il o.ic, .int .i64 o.wr, .slice o.ra o.rl o.rc] 26)) W.heap.size #[.int .i64 o.k, .int .i64 o.w, .int .i64 o.s, .int .i64 o.c, .int .u32 o.st, .slice o.ia o.il o.ic, .int .i64 o.wr, .slice o.ra o.rl o.rc] 26) := hid (Blk.new W _ _)
 have HCA : Hid (Chg [] W (W.alloc (.cells #[.int .i64 o.k, .int .i64 o.w, .int .i64 o.s, .int .i64 o.c, .int .u32 o.st, .slice o.ia o.il o.ic, .int .i64 o.wr, .slice o.ra o.rl o.rc] 26))) := hid ((Chg.refl _ _).alloc _)
 show Calls Tryz.prog 19 #[.agg #[.int .i64 o.k, .int .i64 o.w, .int .i64 o.s, .int .i64 o.c, .int .u32 o.st, .slice o.ia o.il o.ic, .int .i64 o.wr, .slice o.ra o.rl o.rc], .slice pa ps.length pc, .slice qa ts.length qc] W _
 go_enter Tryz.func19, Tryz.ntmps19
 go_upto_region 5 with (go_at_call 26; refine (HFA.out _ HCA.out).mono ?_; rintro e w1 ⟨rfl, hc⟩; have HC := hid (HCA.out.trans hc); have HB1 := hid (HBX.out.keep hc (by simp)); have e0 := HB1.out.cell (o := 0) rfl; have e1 := HB1.out.cell (o := 1) rfl; have e2 := HB1.out.cell (o := 2) rfl; have e3 := HB1.out.cell (o := 3) rfl; have e4 := HB1.out.cell (o := 4) rfl; have e5 := HB1.out.cell (o := 5) rfl; have e6 := HB1.out.cell (o := 6) rfl; have e7 := HB1.out.cell (o := 7) rfl; clear hc)
 obtain ⟨W2, hW2⟩ : ∃ z, w1.alloc (.cells (loomCells0 o (.pointer none) (.slice none 0 0) (.slice none 0 0) 0) 59) = z := ⟨_, rfl⟩
 have hc2 : Chg [] w1 W2 := by rw [<- hW2]; exact (Chg.refl [] w1).alloc _
 have HC2' := hid (HC.out.trans hc2)
 have HB2 := hid (HB1.out.keep hc2 (by simp))
 have HL2 : Hid (Blk W2 w1.heap.size (loomCells0 o (.pointer none) (.slice none 0 0) (.slice none 0 0) 0) 59) := hid (by rw [<- hW2]; exact Blk.new w1 _ _)
 have HLB : Hid (W.heap.size < w1.heap.size) := hid HB1.out.lt
 simp only [loomCells0] at hW2
 rw [hW2]
 obtain ⟨lb, hlb⟩ : ∃ z, w1.heap.size = z := ⟨_, rfl⟩
 rw [hlb] at HL2 HLB ⊢
 clear e0 e1 e2 e3 e4 e5 e6 e7 hc2 hW2 hlb HB1
 have e0 := HB2.out.cell (o := 0) rfl
 have e1 := HB2.out.cell (o := 1) rfl
 have e2 := HB2.out.cell (o := 2) rfl
 have e3 := HB2.out.cell (o := 3) rfl
 have e4 := HB2.out.cell (o := 4) rfl
 have e5 := HB2.out.cell (o := 5) rfl
 have e6 := HB2.out.cell (o := 6) rfl
 have e7 := HB2.out.cell (o := 7) rfl
 go_upto_region 6 with (first
  | (go_at_call 28; refine (HSI.out _).mono ?_; rintro e w3 ⟨rfl, hc3⟩; have HC3 := hid hc3; clear hc3)
  | (go_at_call 27; refine (New_at ws.length _ HWS.out).mono ?_; rintro e w4 ⟨mb, g, rfl, hm4, hc4, hb4, hg4⟩; have HM4 := hid hm4; have HC4 := hid (HC3.out.trans hc4); have HG4 := hid (⟨hb4, hg4⟩ : _ /\ _); have HL4 := hid ((HL2.out.keep HC4.out (by simp))); have c8 := HL4.out.cell (o := 8) rfl; have f8 := HL4.out.free 8; clear hm4 hc4 hb4 hg4))
 obtain ⟨W5, hW5⟩ : ∃ z, w4.setCell ⟨lb, 8, none⟩ (.pointer (some ⟨mb, 0, none⟩)) = z := ⟨_, rfl⟩
 have hc5 : Chg [lb] w4 W5 := by rw [<- hW5]; exact (Chg.refl [lb] w4).setCell (.inl (by simp)) _
 have HL5 : Hid (Blk W5 lb (loomCells0 o (.pointer (some ⟨mb, 0, none⟩)) (.slice none 0 0) (.slice none 0 0) 0) 59) := hid (by rw [<- hW5]; exact HL4.out.set 8 _)
 have hne : lb < W2.heap.size := HL2.out.lt
 have hbo : W.heap.size < lb := HLB.out
 have HM5 := hid (HM4.out.keep hc5 (fun hm => by have := List.mem_singleton.1 hm; have := HG4.out.1; have := HC3.out.size; omega) (fun y hy hm => by have := List.mem_singleton.1 hm; simp only [Value.ownBlock, Option.some.injEq] at hy; have := HG4.out.2; have := HC3.out.size; omega))
 have HB5 := hid ((HB2.out.keep HC4.out (by simp)).keep hc5 (fun hm => by have := List.mem_singleton.1 hm; omega))
 have HC5 : Hid (Chg [] W W5) := hid ((HC2'.out.trans HC4.out).into hc5 (fun y hy => .inr (by have := List.mem_singleton.1 hy; have := HLB.out; omega)))
 rw [hW5]
 clear e0 e1 e2 e3 e4 e5 e6 e7 hc5 hW5 hne hbo c8 f8
 have FA := hid (fun (V' : World) (hV' : Chg [] W5 V') => (⟨HL5.out.keep hV' (by simp), HB5.out.keep hV' (by simp)⟩ : _ /\ _))
 have hHeld : (fun V' : World => Hid (Chg [] W5 V')) (World.drew W5) := hid (Chg.refl [] W5).drew
 refine wp_region_planT (fun V' : World => Hid (Chg [] W5 V')) 6 [(0, true, some 32), (1, true, some 33), (2, true, some 34), (3, true, some 35), (4, true, some 36), (5, false, some 37)] (by kernel_rfl) (by kernel_rfl) (by kernel_rfl) (by kernel_rfl) (by kernel_rfl) (fun d c a v w h => by cases d <;> exact h) hHeld ?_
 repeat (first
  | (refine planT_read (v := ?_) rfl rfl ?_ ?_ ?_; rotate_left; (focus rfl); (focus (intro u hSw; (try dsimp only at hSw); obtain ⟨h1, h2⟩ := FA.out u hSw.out; have c8 : u.cell? ⟨lb, 8, none⟩ = some (.pointer (some ⟨mb, 0, none⟩)) := h1.cell rfl; have e0 : u.cell? ⟨W.heap.size, 0, none⟩ = some (.int .i64 o.k) := h2.cell rfl; have e1 : u.cell? ⟨W.heap.size, 1, none⟩ = some (.int .i64 o.w) := h2.cell rfl; have e2 : u.cell? ⟨W.heap.size, 2, none⟩ = some (.int .i64 o.s) := h2.cell rfl; have e3 : u.cell? ⟨W.heap.size, 3, none⟩ = some (.int .i64 o.c) := h2.cell rfl; have e4 : u.cell? ⟨W.heap.size, 4, none⟩ = some (.int .u32 o.st) := h2.cell rfl; have e5 : u.cell? ⟨W.heap.size, 5, none⟩ = some (.slice o.ia o.il o.ic) := h2.cell rfl; have e6 : u.cell? ⟨W.heap.size, 6, none⟩ = some (.int .i64 o.wr) := h2.cell rfl; have e7 : u.cell? ⟨W.heap.size, 7, none⟩ = some (.slice o.ra o.rl o.rc) := h2.cell rfl; go_simp; (try with_reducible rfl))); (try simp only [Act.put, sA, sB, sC])))
 refine planT_do rfl rfl ?_ (fun K hK => ?_)
 focus rfl
 go_simp
 go_wp2_with (go_at_call 30; refine (HLY.out _ (HC5.out.drew)).mono ?_; rintro e w6 ⟨v6, rfl, ho6, hc6⟩; obtain ⟨va, vc, rfl⟩ := own_open ho6; have HO6 : Hid (OwnW w6 W5.heap.size (.slice va ws.length vc) ws) := hid ho6; have HC6 : Hid (Chg [] W5 w6) := hid (((Chg.refl [] W5).drew).trans hc6); clear ho6 hc6)
 refine hK.out _ _ ?_ (fun hHeld2 => ?_)
 focus exact HC6
 clear hK K hHeld2 hHeld
 try simp only [Act.put, sA, sB, sC]
 refine planT_last rfl rfl (fun K hK => ?_)
 go_wp2_with (go_at_call 29; refine (Fill_ok mb g ws.length (List.replicate ws.length 0) ws 0 0 _ _ (by rw [List.length_replicate]; exact HM5.out.fresh HC6.out) (HO6.out.reads HM.out.2.2.2.2.2.2) (by rw [List.length_replicate]; omega)).mono ?_; rintro e w7 ⟨rfl, hm7, hc7⟩; have HM7 := hid hm7; have HC7 := hid hc7; clear hm7 hc7)
 refine hK.out _ _ ?_
 clear hK K
 have hgl : lb < g := by have := HL2.out.lt; have := HG4.out.2; have := HC3.out.size; omega
 have HL7 : Hid (Blk w7 lb (loomCells0 o (.pointer (some ⟨mb, 0, none⟩)) (.slice none 0 0) (.slice none 0 0) 0) 59) := hid ((HL5.out.keep HC6.out (by simp)).keep HC7.out (fun hm => by have := List.mem_singleton.1 hm; omega))
 have HM8 := HM7.out
 rw [fill_all, List.length_replicate] at HM8
 have HM8 := hid HM8
 have HC8 : Hid (Chg [] W w7) := hid ((HC5.out.trans HC6.out).into HC7.out (fun y hy => .inr (by have := List.mem_singleton.1 hy; have := HLB.out; omega)))
 have HLOW : Hid (W.heap.size <= lb /\ W.heap.size <= mb /\ W.heap.size <= g) := hid ⟨Nat.le_of_lt HLB.out, by have := HG4.out.1; have := HL2.out.lt; have := HC3.out.size; have := HLB.out; omega, by have := HLB.out; omega⟩
 clear hgl FA HL5 HM5 HB5 HC5 HL4 HM4 HC4 HG4 HC3 HL2 HB2 HC2' HM7 HO6
 go_wp2_with fail
 obtain ⟨i0, hi0, hz0, hz1, hz2⟩ := info_parts infoProc
 have HI0 := hid (⟨hi0, hz0, hz1, hz2⟩ : _ /\ _ /\ _ /\ _)
 clear hi0 hz0 hz1 hz2
 go_loopw [41] (fun i wr => ∃ (j : Nat) (oa : Option Addr) (oc : Nat), j <= ps.length /\ i = .int .i64 (j : Int) /\ Hid (Blk wr lb (loomCells0 o (.pointer (some ⟨mb, 0, none⟩)) (.slice oa j oc) (.slice none 0 0) 0) 59) /\ Hid (wr.ownsRow W.heap.size 71 3 (.slice oa j oc) j ((ps.take j).flatMap Pr.row)) /\ Hid (MemAt wr mb (.slice (some ⟨g, 0, none⟩) ws.length ws.length) ws 0) /\ Hid (Chg [] W wr)) (fun i _ => ps.length - (intOf i).toNat)
 case atStart => exact ⟨0, none, 0, Nat.zero_le _, rfl, HL7, hid ⟨rfl, .inl ⟨rfl, rfl⟩⟩, HM8, HC8⟩
 case round =>
  clear HL7 HM8 HC8 HC6 HC7
  obtain ⟨j, oa, oc, hj, rfl, HL, HO, HMm, HJ⟩ := hrel
  by_cases hlt : j < ps.length
  · have HLT := hid hlt
    have g1 := HX1.out j hlt
    obtain ⟨⟨ya, yc, yl⟩, hp⟩ : ∃ p, ps[j]? = some p := ⟨_, List.getElem?_eq_getElem hlt⟩
    have HP := hid hp
    have q0 := HJ.out.keep (HC1.out (j * 1 + 0) _ (by rw [flatMap_get Pr.cells 1 (fun _ => rfl) ps j 0 (by decide) _ hp]; rfl)) (by simp)
    rw [Nat.add_zero] at q0
    simp only [Pr.val, Nat.mul_one] at q0 g1
    have c9 := HL.out.cell (o := 9) rfl
    have hcc := proc_cells wr (.slice ya yl.length yc) (.pointer none) 0
    have hca : Chg [] wr (wr.alloc (.cells #[.slice ya yl.length yc, .pointer none, .int .i64 0] 71)) := (Chg.refl _ _).alloc _
    have HOA := mem.own_chg HO.out hca (by simp)
    have HLA := hid (HL.out.keep hca (by simp))
    have HCA9 := hid hca
    have hb3 : W.heap.size <= (wr.alloc (.cells #[.slice ya yl.length yc, .pointer none, .int .i64 0] 71)).heap.size := by have h1 := HJ.out.size; have h2 := hca.size; omega
    have HBB : Hid (j + 1 <= maxLen /\ (j + 1) * 40 <= 140737488355328) := hid (by have := HN5.out; unfold maxLen; omega)
    have hj5 : (j : Int) < 5 := by have := HN5.out; omega
    have k8 : IntKind.i64.wrap ((j : Int) + 1) = (j : Int) + 1 := by rw [IntKind.wrap_i64]; omega
    clear hp hlt hca
    go_wp2_with (at_builtin; refine wpList_append_own_at _ rfl (.tmp 49) (.tmp 52) 57 rfl W.heap.size 71 i0 (.agg #[.slice none 0 0, .pointer none, .int .i64 0]) 3 40 Tryz.underlying57 HI0.out.1 HI0.out.2.1 HI0.out.2.2.1 HI0.out.2.2.2 rfl (by decide) (.slice oa j oc) j _ rfl HOA ⟨wr.heap.size, 0, none⟩ 1 1 _ rfl rfl hcc (by simp [Value.oneCell']) HBB.out.1 HBB.out.2 hb3 ?_; intro v' w10 hown' hgrow hnil hblk; obtain ⟨oa2, oc2, rfl⟩ := own_open hown'; have HKA := hid (((Chg.refl (Value.slice oa j oc).ownBlock.toList wr).alloc (.cells #[.slice ya yl.length yc, .pointer none, .int .i64 0] 71)).grown hgrow (fun k hk => .inl (Option.mem_toList.2 hk))); have HON := hid hown'; have HLB9 := hid (HL.out.keep HKA.out (fun hm => own_type HO.out HL.out (by decide) lb (Option.mem_toList.1 hm) rfl)); have c9 := HLB9.out.cell (o := 9) rfl; have f9 := HLB9.out.free 9; clear hown' hgrow hnil hblk)
    have htk : (ps.take (j + 1)).flatMap Pr.row = (ps.take j).flatMap Pr.row ++ [.slice ya yl.length yc, .pointer none, .int .i64 0] := by
     rw [List.take_add_one, HP.out, List.flatMap_append]
     rfl
    have hset : Chg [lb] w10 (w10.setCell ⟨lb, 9, none⟩ (.slice oa2 (j + 1) oc2)) := (Chg.refl [lb] w10).setCell (.inl (by simp)) _
    have hmne : mb ≠ lb := fun he => by
     have h1 : wr.heap[mb]? = _ := HMm.out.box
     have h2 : wr.heap[lb]? = _ := HL.out
     rw [he, h2] at h1
     simp [loomCells0] at h1
    go_roundw
    case rel =>
     refine ⟨j + 1, oa2, oc2, by have := HLT.out; omega, by go_num, hid ?_, hid ?_, hid ?_, hid ?_⟩
     · exact HLB9.out.set 9 _
     · rw [htk]
       exact mem.own_chg HON.out hset (fun y hy hm => own_type HON.out HLB9.out (by decide) y hy (List.mem_singleton.1 hm))
     · exact (HMm.out.keep HKA.out (fun hm => own_type HO.out HMm.out.box (by decide) mb (Option.mem_toList.1 hm) rfl) (fun y hy hm => own_type2 HMm.out.row HO.out (by decide) y hy (Option.mem_toList.1 hm))).keep hset (fun hm => hmne (List.mem_singleton.1 hm)) (fun y hy hm => own_type HMm.out.row HL.out (by decide) y hy (List.mem_singleton.1 hm))
     · exact (HJ.out.into HKA.out (fun y hy => .inr (World.ownsRow.lt HO.out y (Option.mem_toList.1 hy)).1)).into hset (fun y hy => .inr (by have := List.mem_singleton.1 hy; have := HLOW.out.1; omega))
    case measure =>
     have := HLT.out
     simp [intOf]
     omega
  · obtain rfl : ps.length = j := by omega
    clear hlt hj
    have HL0 := hid (LoomAt.start (kk := kk) (T := T) (o := o) (ws := ws) (ps := ps) (lb := lb) (mb := mb) HM.out.2.2.1 HL.out (by have := HO.out; rwa [List.take_length] at this) HMm.out ⟨HLOW.out.1, HLOW.out.2.1, fun b hb => by simp only [Value.ownBlock, Option.some.injEq] at hb; have := HLOW.out.2.2; omega⟩ HJ.out)
    have htl : (ts.length : Int) <= 1000 := by have := HM.out.2.2.2.2.2.1; omega
    have HTL := hid htl
    clear HL HO HMm
    go_wp2_with fail
    clear htl
    go_loopw [59] (fun i wr2 => ∃ (j : Nat) (z : LV), j <= ts.length /\ i = .int .i64 (j : Int) /\ Hid (LoomAt kk T W wr2 o (turnsM K (.pointer (some ⟨mb, 0, none⟩)) (frO o) (lo0 ws ps) (ts.take j)) z /\ z.lb = lb /\ z.mb = mb /\ Good kk w0 r0 K o (.pointer (some ⟨mb, 0, none⟩)) (lo0 ws ps) (ts.take j) /\ 0 <= z.nm /\ z.nm <= j)) (fun i _ => ts.length - (intOf i).toNat)
    case atStart => exact ⟨0, _, Nat.zero_le _, rfl, hid ⟨HL0.out, rfl, rfl, Good.nil HM.out.1 HL0.out.fine (CsOK.start _ _), Int.le_refl _, Int.le_refl _⟩⟩
    case round =>
     obtain ⟨j2, z, hj2, rfl, HZ⟩ := hrel
     by_cases hlt2 : j2 < ts.length
     · have HLT2 := hid hlt2
       have g2 := HX2.out j2 hlt2
       obtain ⟨u, hu⟩ : ∃ u, ts[j2]? = some u := ⟨_, List.getElem?_eq_getElem hlt2⟩
       have HU := hid hu
       have q0 := HZ.out.1.chg.keep (HC2.out j2 _ (by rw [List.getElem?_map, hu]; rfl)) (by simp)
       simp only [Nat.mul_one] at g2
       have hnow := turnsM_now K (.pointer (some ⟨mb, 0, none⟩)) (frO o) (ts.take j2) (lo0 ws ps)
       have h0 : (lo0 ws ps).now = 0 := rfl
       have hlt3 : (ts.take j2).length <= 1000 := by have := HTL.out; rw [List.length_take]; omega
       have htn := turn_any HTA.out.1 HTA.out.2 HZ.out.1 HM.out.2.1 HZ.out.2.2.2.1.last.1 (by omega) ⟨HZ.out.2.2.2.2.1, by have := HZ.out.2.2.2.2.2; have := HTL.out; omega⟩ u
       rw [HZ.out.2.1, HZ.out.2.2.1, ← turnsM_snoc] at htn
       have HTN := hid htn
       have hj5 : (j2 : Int) < 1000 := by have := HTL.out; omega
       have k8 : IntKind.i64.wrap ((j2 : Int) + 1) = (j2 : Int) + 1 := by rw [IntKind.wrap_i64]; omega
       clear hu hlt2 hnow h0 hlt3 htn hj2
       go_wp2_with (go_at_call 22; refine HTN.out.mono ?_; rintro e w12 ⟨rfl, z', hz', e1, e2, e3, e4, e5⟩; have HZ' := hid (⟨hz', e1, e2, e3, e4, e5⟩ : _ /\ _ /\ _ /\ _ /\ _ /\ _); clear hz' e1 e2 e3 e4 e5)
       have htk : ts.take (j2 + 1) = ts.take j2 ++ [u] := by rw [List.take_add_one, HU.out]; rfl
       go_roundw
       case rel =>
        refine ⟨j2 + 1, z', by have := HLT2.out; omega, by go_num, hid ?_⟩
        rw [htk]
        refine ⟨HZ'.out.1, HZ'.out.2.1, HZ'.out.2.2.1, ?_, by have := HZ.out.2.2.2.2.1; have := HZ'.out.2.2.2.2.1; omega, by have := HZ.out.2.2.2.2.2; have := HZ'.out.2.2.2.2.2; omega⟩
        exact HZ.out.2.2.2.1.snoc HZ'.out.1.fine
       case measure =>
        have := HLT2.out
        simp [intOf]
        omega
     · obtain rfl : ts.length = j2 := by omega
       clear hlt2 hj2
       go_wp2_with fail
       refine bodyPost_ret (results_tmp2 rfl _ _ _) rfl ?_
       refine ⟨z, ?_, ?_⟩
       · rw [HZ.out.2.1]; rfl
       · have h1 := HZ.out
         rw [List.take_length] at h1
         rw [h1.2.2.1]
         exact ⟨h1.1, h1.2.2.2.1, h1.2.2.2.2⟩
structure KindOK (kk : Nat) (T : TypeId) (w0 r0 : Int) (K : Kind) : Prop where
 ops : Ops kk K T frO (RightO kk) w0 r0
 ty : TyOK T
 fr : ∀ o, RightO kk o -> FrOK w0 r0 K o
 w : wOp kk = w0
 r : rOp kk = r0
structure Inp (kk : Nat) (w0 r0 : Int) (o : ObV) (ini ws : List Int) (ps : List Pr) (pa : Option Addr) (pc : Nat) (ts : List Int) (qa : Option Addr) (qc : Nat) (W : World) : Prop where
 right : RightO kk o
 lay : LayO o.k o.w o.s o.c o.st o.ia o.il o.ic o.wr o.ra o.rl o.rc ini ws
 tab : bitm.Tab W
 procs : ProcsR W (.slice pa ps.length pc) ps
 len : ps.length = o.rl + 1
 fit : PsFit w0 r0 o.w ps
 sm : ∀ p ∈ ps, p.l.length <= 1000
 init : ReadsW W (.slice o.ia o.il o.ic) ini
 turns : Reads W 1 (.slice qa ts.length qc) ts.length (ts.map (Value.int .i64))
 tl : ts.length <= 1000
section
variable {kk : Nat} {T : TypeId} {w0 r0 : Int} {K : Kind} {o : ObV} {ini ws : List Int} {ps : List Pr} {pa : Option Addr} {pc : Nat} {ts : List Int} {qa : Option Addr} {qc : Nat} {W : World}
theorem Inp.chg (h : Inp kk w0 r0 o ini ws ps pa pc ts qa qc W) {V : World} (k : Chg [] W V) : Inp kk w0 r0 o ini ws ps pa pc ts qa qc V :=
 ⟨h.right, h.lay, h.tab.keep k, h.procs.chg k, h.len, h.fit, h.sm, h.init.chg k, h.turns.fresh k, h.tl⟩
theorem Inp.run (D : KindOK kk T w0 r0 K) (h : Inp kk w0 r0 o ini ws ps pa pc ts qa qc W) :
 Calls Tryz.prog 19 #[.agg o.cells.toArray, .slice pa ps.length pc, .slice qa ts.length qc] W fun e V => ∃ z, e = .returned (.tuple #[.pointer (some ⟨z.lb, 0, none⟩), .int .i64 0]) /\ LoomAt kk T W V o (turnsM K (.pointer (some ⟨z.mb, 0, none⟩)) (frO o) (lo0 ws ps) ts) z /\ Good kk w0 r0 K o (.pointer (some ⟨z.mb, 0, none⟩)) (lo0 ws ps) ts /\ 0 <= z.nm /\ z.nm <= ts.length :=
 run_ok D.ops D.ty o h.right (D.fr o h.right) (by rw [h.right.1]; exact D.w) (by rw [h.right.1]; exact D.r) h.lay h.tab h.procs h.len h.fit h.sm h.init h.turns h.tl
theorem LoomAt.callsR {V : World} {L : Lo} {z : LV} (h : LoomAt kk T W V o L z) : CallsR V (.slice z.ca L.cs.length z.cc) L.cs z.rvs :=
 ⟨h.rlen, Reads.of_own h.calls (by decide), fun k c r h1 h2 => OwnW.reads (h.recs k c r h1 h2).1 (h.recs k c r h1 h2).2⟩
end
theorem kok_four : KindOK 1 123 2 1 four.K := ⟨ops_four, ⟨by decide, by decide, by decide, by decide, by decide⟩, fun o h => frok_four h, rfl, rfl⟩
theorem kok_chen : KindOK 2 124 2 1 chen.K := ⟨ops_chen, ⟨by decide, by decide, by decide, by decide, by decide⟩, fun o h => frok_chen h, rfl, rfl⟩
theorem kok_seq : KindOK 3 125 2 1 seq.K := ⟨ops_seq, ⟨by decide, by decide, by decide, by decide, by decide⟩, fun o h => frok_seq h, rfl, rfl⟩
theorem kok_ring : KindOK 4 126 2 1 ring.K := ⟨ops_ring, ⟨by decide, by decide, by decide, by decide, by decide⟩, fun o h => frok_ring h, rfl, rfl⟩
theorem kok_cab : KindOK 5 127 2 1 cab.K := ⟨ops_cab, ⟨by decide, by decide, by decide, by decide, by decide⟩, fun o h => frok_cab h, rfl, rfl⟩
theorem kok_fifo : KindOK 6 128 3 4 fifo.K := ⟨ops_fifo, ⟨by decide, by decide, by decide, by decide, by decide⟩, fun o h => frok_fifo h, rfl, rfl⟩
end Go.Proofs.YtphfnjcboellhaaGreatDoor.wv
