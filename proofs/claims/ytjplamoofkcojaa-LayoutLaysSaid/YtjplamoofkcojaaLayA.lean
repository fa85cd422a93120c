/- Systems: an object's first words, by its kind: object.Lay, and the reference's. -/
import Derived.Test.YtjplamoofkcojaaRopR
import Derived.Test.YtjplamoofkcojaaFourB
import Derived.Test.YtjplamoofkcojaaSeqB
import Derived.Test.YtjplamoofkcojaaRing3
import Derived.Test.YtjplamoofkcojaaCab3
import Derived.Test.YtjplamoofkcojaaChen3
import Derived.Test.YtjplamoofkcojaaFifo3
namespace Go.Proofs.Ytjplamoofkcojaa.lay
open Go Go.RowKit Go.Proofs.Ytjplamoofkcojaa.kit Go.Proofs.Ytjplamoofkcojaa.obj Go.Proofs.Ytjplamoofkcojaa.mem Go.Proofs.Ytjplamoofkcojaa.core
set_option linter.unusedVariables false
set_option linter.unusedSimpArgs false
set_option maxRecDepth 100000
theorem fill_mem {N F : Nat} {st z : Int} {ini : List Int} (h : z ∈ mem.fillL ((List.replicate N 0).set 0 st) F ini) : z = 0 ∨ z = st ∨ z ∈ ini := by
  have hs : ∀ y, y ∈ (List.replicate N (0 : Int)).set 0 st → y = 0 ∨ y = st := fun y hy => by
    rcases List.mem_or_eq_of_mem_set hy with h1 | h1
    · exact .inl (List.eq_of_mem_replicate h1)
    · exact .inr h1
  simp only [mem.fillL, List.mem_append] at h
  rcases h with h | h | h
  · rcases hs z (List.mem_of_mem_take h) with h1 | h1
    · exact .inl h1
    · exact .inr (.inl h1)
  · exact .inr (.inr h)
  · rcases hs z (List.mem_of_mem_drop h) with h1 | h1
    · exact .inl h1
    · exact .inr (.inl h1)
theorem fill0_mem {N F : Nat} {z : Int} {ini : List Int} (h : z ∈ mem.fillL (List.replicate N 0) F ini) : z = 0 ∨ z ∈ ini := by
  simp only [mem.fillL, List.mem_append] at h
  rcases h with h | h | h
  · exact .inl (List.eq_of_mem_replicate (List.mem_of_mem_take h))
  · exact .inr h
  · exact .inl (List.eq_of_mem_replicate (List.mem_of_mem_drop h))
def LayOK (k w s c st : Int) (ia : Option Addr) (il ic : Nat) (wri : Int) (ra : Option Addr) (rl rc : Nat) (ini L : List Int) : Prop :=
  (∀ u, ReadsW u (.slice ia il ic) ini → Calls Try.prog 56 #[.agg #[.int .i64 k, .int .i64 w, .int .i64 s, .int .i64 c, .int .u32 st, .slice ia il ic, .int .i64 wri, .slice ra rl rc]] u fun e W' => ∃ v, e = .returned v ∧ OwnW W' u.heap.size v L ∧ Chg [] u W') ∧
  (∀ u, ReadsW u (.slice ia il ic) ini → Calls Try.prog 59 #[.agg #[.int .i64 k, .int .i64 w, .int .i64 s, .int .i64 c, .int .u32 st, .slice ia il ic, .int .i64 wri, .slice ra rl rc]] u fun e W' => ∃ v, e = .returned v ∧ OwnW W' u.heap.size v L ∧ Chg [] u W') ∧
  (L.length : Int) = rop.sizeI k w s c st il rl ∧ ∀ z ∈ L, (Lit.int .u32 z).wf = true
set_option maxHeartbeats 4000000 in
theorem lay_four (k w s c st : Int) (ia : Option Addr) (il ic : Nat) (wri : Int) (ra : Option Addr) (rl rc : Nat) (ini : List Int) (h : ObjW k w s c st il rl) (hk : k = 1) (hrb : rightB k w s c st il rl = true) (W : World) (hi : ReadsW W (.slice ia il ic) ini) : ∃ L, LayOK k w s c st ia il ic wri ra rl rc ini L := by
  have hr : (decide (k = 1) && rightB k w s c st il rl) = true := by rw [hrb, decide_eq_true hk]; rfl
  have hbd := rightB_bd hrb
  obtain ⟨wN, hw⟩ : ∃ wN : Nat, w = (wN : Int) := ⟨w.toNat, by omega⟩
  have hsi : rop.sizeI k w s c st il rl = ((4 + 4 * wN : Nat) : Int) := by
    unfold rop.sizeI
    rw [if_pos hrb]
    simp only [rightB, decide_eq_true_eq] at hrb; simp [rop.headI, rop.recordsI, hk]; omega
  have hhd : rop.headI k rl = ((4 : Nat) : Int) := by simp [rop.headI, hk]
  have hil : ini.length = wN ∧ st % 2 = 0 := by
    have h1 : il = ini.length := by obtain ⟨_, _, he, _⟩ := reads_slice hi.1; simp at he; exact he.2.1
    simp only [rightB, decide_eq_true_eq] at hrb
    omega
  have hly := fun u (hu : ReadsW u (.slice ia il ic) ini) => four.Lay_yes k w s c st ia il ic wri ra rl rc wN hw ini h hr u hu
  have hrl := fun u (hu : ReadsW u (.slice ia il ic) ini) => rop.RLay_yes k w s c st ia il ic wri ra rl rc 4 (4 + 4 * wN) ini h hrb (by omega) (by omega) hhd hsi u hu
  have hleq : rop.rlayL w st 4 (4 + 4 * wN) ini = (four.layL wN ini) := by
    have hst : st = 0 := by simp only [rightB, decide_eq_true_eq] at hrb; omega
    have h1 := hil.1
    simp only [rop.rlayL, four.layL, hst, mem.fillL]
    have e1 : (List.replicate (4 + 4 * wN) (0 : Int)).set 0 0 = List.replicate (4 + 4 * wN) 0 := by
      rw [show 4 + 4 * wN = (3 + 4 * wN) + 1 by omega, List.replicate_succ, List.set_cons_zero]
    rw [e1, List.take_replicate, List.drop_replicate]
    congr 1
    · congr 1; omega
    · congr 2; omega
  rw [hleq] at hrl
  refine ⟨(four.layL wN ini), fun u hu => ?_, fun u hu => hrl u hu, ?_, fun z hz => ?_⟩
  · have HCA : Hid (Chg [] u (u.alloc (.cells #[.int .i64 k, .int .i64 w, .int .i64 s, .int .i64 c, .int .u32 st, .slice ia il ic, .int .i64 wri, .slice ra rl rc] 26))) := Lib.hid ((Chg.refl _ _).alloc _)
    have HLY := Lib.hid (hly (u.alloc (.cells #[.int .i64 k, .int .i64 w, .int .i64 s, .int .i64 c, .int .u32 st, .slice ia il ic, .int .i64 wri, .slice ra rl rc] 26)) (hu.chg HCA.out))
    subst hk
    generalize (four.layL wN ini) = L at *
    clear hrl hleq hly hil hhd hsi hr hbd hrb hi h hu hw
    go_enter Try.func56, Try.ntmps56
    go_wp2_with (go_at_call 82; refine HLY.out.mono ?_; rintro e w1 ⟨v, rfl, ho, hc⟩; have HO := Lib.hid ho; have HC := Lib.hid hc; clear ho hc)
    go_ret
    exact ⟨_, rfl, mem.own_base HO.out HCA.out.size, HCA.out.trans HC.out⟩
  · rw [hsi]
    have := hil.1
    simp [four.layL]; omega
  · have h2 := hi.2
    have h3 := h.st32
    simp only [four.layL, List.mem_append] at hz
    rcases hz with hz | hz | hz
    · rw [List.eq_of_mem_replicate hz]; decide
    · exact h2 z hz
    · rw [List.eq_of_mem_replicate hz]; decide
set_option maxHeartbeats 4000000 in
theorem lay_chen (k w s c st : Int) (ia : Option Addr) (il ic : Nat) (wri : Int) (ra : Option Addr) (rl rc : Nat) (ini : List Int) (h : ObjW k w s c st il rl) (hk : k = 2) (hrb : rightB k w s c st il rl = true) (W : World) (hi : ReadsW W (.slice ia il ic) ini) : ∃ L, LayOK k w s c st ia il ic wri ra rl rc ini L := by
  have hr : (decide (k = 2) && rightB k w s c st il rl) = true := by rw [hrb, decide_eq_true hk]; rfl
  have hbd := rightB_bd hrb
  obtain ⟨wN, hw⟩ : ∃ wN : Nat, w = (wN : Int) := ⟨w.toNat, by omega⟩
  have hmb := chen.mul_bd (c := (rl : Int) + 2) (w := w) (m := 16) ⟨by omega, by omega⟩ ⟨by omega, by omega⟩ (by omega)
  have hsi : rop.sizeI k w s c st il rl = ((1 + rl + (((rl : Int) + 2) * w).toNat : Nat) : Int) := by
    unfold rop.sizeI
    rw [if_pos hrb]
    have e1 : rop.headI k rl = 1 + rl := by simp [rop.headI, hk]
    have e2 : rop.recordsI k s rl = (rl : Int) + 2 := by simp [rop.recordsI, hk]
    rw [e1, e2]
    omega
  have hhd : rop.headI k rl = ((((1 + rl)) : Nat) : Int) := by simp [rop.headI, hk]
  have hil : ini.length = wN ∧ st = 0 := by
    have h1 : il = ini.length := by obtain ⟨_, _, he, _⟩ := reads_slice hi.1; simp at he; exact he.2.1
    simp only [rightB, decide_eq_true_eq] at hrb
    omega
  have hly := fun u (hu : ReadsW u (.slice ia il ic) ini) => chen.Lay_yes k w s c st ia il ic wri ra rl rc wN hw ini h hr u hu
  have hrl := fun u (hu : ReadsW u (.slice ia il ic) ini) => rop.RLay_yes k w s c st ia il ic wri ra rl rc (1 + rl) (1 + rl + (((rl : Int) + 2) * w).toNat) ini h hrb (by omega) (by omega) hhd hsi u hu
  have hleq : rop.rlayL w st (1 + rl) (1 + rl + (((rl : Int) + 2) * w).toNat) ini = (chen.layL w rl ini) := by
    rw [hil.2]
    unfold rop.rlayL chen.layL
    have e0 : ∀ M, (List.replicate M (0 : Int)).set 0 0 = List.replicate M 0 := fun M => by cases M <;> simp [List.replicate_succ]
    rw [e0]
  rw [hleq] at hrl
  refine ⟨(chen.layL w rl ini), fun u hu => ?_, fun u hu => hrl u hu, ?_, fun z hz => ?_⟩
  · have HCA : Hid (Chg [] u (u.alloc (.cells #[.int .i64 k, .int .i64 w, .int .i64 s, .int .i64 c, .int .u32 st, .slice ia il ic, .int .i64 wri, .slice ra rl rc] 26))) := Lib.hid ((Chg.refl _ _).alloc _)
    have HLY := Lib.hid (hly (u.alloc (.cells #[.int .i64 k, .int .i64 w, .int .i64 s, .int .i64 c, .int .u32 st, .slice ia il ic, .int .i64 wri, .slice ra rl rc] 26)) (hu.chg HCA.out))
    subst hk
    generalize (chen.layL w rl ini) = L at *
    clear hrl hleq hly hil hhd hsi hr hbd hrb hi h hu hw hmb
    go_enter Try.func56, Try.ntmps56
    go_wp2_with (go_at_call 83; refine HLY.out.mono ?_; rintro e w1 ⟨v, rfl, ho, hc⟩; have HO := Lib.hid ho; have HC := Lib.hid hc; clear ho hc)
    go_ret
    exact ⟨_, rfl, mem.own_base HO.out HCA.out.size, HCA.out.trans HC.out⟩
  · rw [hsi]
    have := hil.1
    have h3 : (ini.length : Int) ≤ ((rl : Int) + 2) * w := by
      have h4 : 1 * w ≤ ((rl : Int) + 2) * w := Int.mul_le_mul_of_nonneg_right (by omega) (by omega)
      omega
    simp [chen.layL, mem.fillL]; omega
  · have h2 := hi.2
    have h3 := h.st32
    rcases fill0_mem hz with rfl | hz
    · decide
    · exact h2 z hz
set_option maxHeartbeats 4000000 in
theorem lay_seq (k w s c st : Int) (ia : Option Addr) (il ic : Nat) (wri : Int) (ra : Option Addr) (rl rc : Nat) (ini : List Int) (h : ObjW k w s c st il rl) (hk : k = 3) (hrb : rightB k w s c st il rl = true) (W : World) (hi : ReadsW W (.slice ia il ic) ini) : ∃ L, LayOK k w s c st ia il ic wri ra rl rc ini L := by
  have hr : (decide (k = 3) && rightB k w s c st il rl) = true := by rw [hrb, decide_eq_true hk]; rfl
  have hbd := rightB_bd hrb
  obtain ⟨wN, hw⟩ : ∃ wN : Nat, w = (wN : Int) := ⟨w.toNat, by omega⟩
  have hsi : rop.sizeI k w s c st il rl = ((1 + wN : Nat) : Int) := by
    unfold rop.sizeI
    rw [if_pos hrb]
    simp only [rightB, decide_eq_true_eq] at hrb; simp [rop.headI, rop.recordsI, hk]; omega
  have hhd : rop.headI k rl = ((1 : Nat) : Int) := by simp [rop.headI, hk]
  have hil : ini.length = wN ∧ st % 2 = 0 := by
    have h1 : il = ini.length := by obtain ⟨_, _, he, _⟩ := reads_slice hi.1; simp at he; exact he.2.1
    simp only [rightB, decide_eq_true_eq] at hrb
    omega
  have hly := fun u (hu : ReadsW u (.slice ia il ic) ini) => seq.Lay_yes k w s c st ia il ic wri ra rl rc wN hw ini h hr u hu
  have hrl := fun u (hu : ReadsW u (.slice ia il ic) ini) => rop.RLay_yes k w s c st ia il ic wri ra rl rc 1 (1 + wN) ini h hrb (by omega) (by omega) hhd hsi u hu
  have hleq : rop.rlayL w st 1 (1 + wN) ini = (seq.layL st ini) := by
    have h1 := hil.1
    simp only [rop.rlayL, seq.layL, mem.fillL]
    rw [h1, show 1 + wN = wN + 1 by omega, List.replicate_succ, List.set_cons_zero]
    simp
  rw [hleq] at hrl
  refine ⟨(seq.layL st ini), fun u hu => ?_, fun u hu => hrl u hu, ?_, fun z hz => ?_⟩
  · have HCA : Hid (Chg [] u (u.alloc (.cells #[.int .i64 k, .int .i64 w, .int .i64 s, .int .i64 c, .int .u32 st, .slice ia il ic, .int .i64 wri, .slice ra rl rc] 26))) := Lib.hid ((Chg.refl _ _).alloc _)
    have HLY := Lib.hid (hly (u.alloc (.cells #[.int .i64 k, .int .i64 w, .int .i64 s, .int .i64 c, .int .u32 st, .slice ia il ic, .int .i64 wri, .slice ra rl rc] 26)) (hu.chg HCA.out))
    subst hk
    generalize (seq.layL st ini) = L at *
    clear hrl hleq hly hil hhd hsi hr hbd hrb hi h hu hw
    go_enter Try.func56, Try.ntmps56
    go_wp2_with (go_at_call 84; refine HLY.out.mono ?_; rintro e w1 ⟨v, rfl, ho, hc⟩; have HO := Lib.hid ho; have HC := Lib.hid hc; clear ho hc)
    go_ret
    exact ⟨_, rfl, mem.own_base HO.out HCA.out.size, HCA.out.trans HC.out⟩
  · rw [hsi]
    have := hil.1
    simp [seq.layL]; omega
  · have h2 := hi.2
    have h3 := h.st32
    simp only [seq.layL, List.mem_cons] at hz
    rcases hz with rfl | hz
    · exact core.u32_wf h3
    · exact h2 z hz
set_option maxHeartbeats 4000000 in
theorem lay_ring (k w s c st : Int) (ia : Option Addr) (il ic : Nat) (wri : Int) (ra : Option Addr) (rl rc : Nat) (ini : List Int) (h : ObjW k w s c st il rl) (hk : k = 4) (hrb : rightB k w s c st il rl = true) (W : World) (hi : ReadsW W (.slice ia il ic) ini) : ∃ L, LayOK k w s c st ia il ic wri ra rl rc ini L := by
  have hr : (decide (k = 4) && rightB k w s c st il rl) = true := by rw [hrb, decide_eq_true hk]; rfl
  have hbd := rightB_bd hrb
  obtain ⟨wN, hw⟩ : ∃ wN : Nat, w = (wN : Int) := ⟨w.toNat, by omega⟩
  have hs16 : 2 ≤ s ∧ s ≤ 16 := by subst hk; simp only [rightB, decide_eq_true_eq] at hrb; omega
  have hmb := ring.mul_bd (c := s) (w := w) (m := 16) ⟨by omega, hs16.2⟩ ⟨by omega, by omega⟩ (by omega)
  have hsi : rop.sizeI k w s c st il rl = (((1 + s * w).toNat : Nat) : Int) := by
    unfold rop.sizeI
    rw [if_pos hrb]
    have e1 : rop.headI k rl = 1 := by simp [rop.headI, hk]
    have e2 : rop.recordsI k s rl = s := by simp [rop.recordsI, hk]
    rw [e1, e2]
    omega
  have hhd : rop.headI k rl = ((1 : Nat) : Int) := by simp [rop.headI, hk]
  have hil : ini.length = wN ∧ True := by
    have h1 : il = ini.length := by obtain ⟨_, _, he, _⟩ := reads_slice hi.1; simp at he; exact he.2.1
    simp only [rightB, decide_eq_true_eq] at hrb
    exact ⟨by omega, trivial⟩
  have hly := fun u (hu : ReadsW u (.slice ia il ic) ini) => ring.Lay_yes k w s c st ia il ic wri ra rl rc wN hw ini h hr u hu
  have hem := Int.emod_nonneg st (show s ≠ 0 by omega)
  have hsl : st % s = (((st % s).toNat : Nat) : Int) := by omega
  have hmn := Int.mul_nonneg hem (show 0 ≤ w by omega)
  have hsw : (((st % s).toNat : Nat) : Int) * w = ((((st % s) * w).toNat : Nat) : Int) := by rw [← hsl]; omega
  have hhp : 1 + ((st % s) * w).toNat = (1 + (st % s) * w).toNat := by omega
  have hrl := fun u (hu : ReadsW u (.slice ia il ic) ini) => rop.RLay4_yes k w s c st ia il ic wri ra rl rc 1 (1 + (st % s) * w).toNat (st % s).toNat ((st % s) * w).toNat ((1 + s * w).toNat) ini h hrb hk hsl hsw hhp hhd hsi u hu
  have hleq : rop.rlayL w st (1 + (st % s) * w).toNat ((1 + s * w).toNat) ini = (ring.layL s w st ini) := rfl
  rw [hleq] at hrl
  refine ⟨(ring.layL s w st ini), fun u hu => ?_, fun u hu => hrl u hu, ?_, fun z hz => ?_⟩
  · have HCA : Hid (Chg [] u (u.alloc (.cells #[.int .i64 k, .int .i64 w, .int .i64 s, .int .i64 c, .int .u32 st, .slice ia il ic, .int .i64 wri, .slice ra rl rc] 26))) := Lib.hid ((Chg.refl _ _).alloc _)
    have HLY := Lib.hid (hly (u.alloc (.cells #[.int .i64 k, .int .i64 w, .int .i64 s, .int .i64 c, .int .u32 st, .slice ia il ic, .int .i64 wri, .slice ra rl rc] 26)) (hu.chg HCA.out))
    subst hk
    generalize (ring.layL s w st ini) = L at *
    clear hrl hleq hly hil hhd hsi hr hbd hrb hi h hu hw hs16 hmb hem hsl hmn hsw hhp
    go_enter Try.func56, Try.ntmps56
    go_wp2_with (go_at_call 85; refine HLY.out.mono ?_; rintro e w1 ⟨v, rfl, ho, hc⟩; have HO := Lib.hid ho; have HC := Lib.hid hc; clear ho hc)
    go_ret
    exact ⟨_, rfl, mem.own_base HO.out HCA.out.size, HCA.out.trans HC.out⟩
  · rw [hsi]
    have h1 := hil.1
    have h4 := Int.emod_lt_of_pos st (show 0 < s by omega)
    have h5 : (st % s + 1) * w ≤ s * w := Int.mul_le_mul_of_nonneg_right (by omega) (by omega)
    rw [Int.add_mul, Int.one_mul] at h5
    simp [ring.layL, mem.fillL]; omega
  · have h2 := hi.2
    have h3 := h.st32
    rcases fill_mem hz with rfl | rfl | hz
    · decide
    · exact core.u32_wf h3
    · exact h2 z hz
set_option maxHeartbeats 4000000 in
theorem lay_cab (k w s c st : Int) (ia : Option Addr) (il ic : Nat) (wri : Int) (ra : Option Addr) (rl rc : Nat) (ini : List Int) (h : ObjW k w s c st il rl) (hk : k = 5) (hrb : rightB k w s c st il rl = true) (W : World) (hi : ReadsW W (.slice ia il ic) ini) : ∃ L, LayOK k w s c st ia il ic wri ra rl rc ini L := by
  have hr : (decide (k = 5) && rightB k w s c st il rl) = true := by rw [hrb, decide_eq_true hk]; rfl
  have hbd := rightB_bd hrb
  obtain ⟨wN, hw⟩ : ∃ wN : Nat, w = (wN : Int) := ⟨w.toNat, by omega⟩
  have hs16 : 3 ≤ s ∧ s ≤ 16 := by subst hk; simp only [rightB, decide_eq_true_eq] at hrb; omega
  have hmb := cab.mul_bd (c := s) (w := w) (m := 16) ⟨by omega, hs16.2⟩ ⟨by omega, by omega⟩ (by omega)
  have hsi : rop.sizeI k w s c st il rl = ((1 + rl + (s * w).toNat : Nat) : Int) := by
    unfold rop.sizeI
    rw [if_pos hrb]
    have e1 : rop.headI k rl = 1 + rl := by simp [rop.headI, hk]
    have e2 : rop.recordsI k s rl = s := by simp [rop.recordsI, hk]
    rw [e1, e2]
    omega
  have hhd : rop.headI k rl = ((((1 + rl)) : Nat) : Int) := by simp [rop.headI, hk]
  have hil : ini.length = wN ∧ st = 0 := by
    have h1 : il = ini.length := by obtain ⟨_, _, he, _⟩ := reads_slice hi.1; simp at he; exact he.2.1
    simp only [rightB, decide_eq_true_eq] at hrb
    omega
  have hly := fun u (hu : ReadsW u (.slice ia il ic) ini) => cab.Lay_yes k w s c st ia il ic wri ra rl rc wN hw ini h hr u hu
  have hrl := fun u (hu : ReadsW u (.slice ia il ic) ini) => rop.RLay_yes k w s c st ia il ic wri ra rl rc (1 + rl) (1 + rl + (s * w).toNat) ini h hrb (by omega) (by omega) hhd hsi u hu
  have hleq : rop.rlayL w st (1 + rl) (1 + rl + (s * w).toNat) ini = (cab.layL s w rl ini) := by
    rw [hil.2]
    unfold rop.rlayL cab.layL
    have e0 : ∀ M, (List.replicate M (0 : Int)).set 0 0 = List.replicate M 0 := fun M => by cases M <;> simp [List.replicate_succ]
    rw [e0]
  rw [hleq] at hrl
  refine ⟨(cab.layL s w rl ini), fun u hu => ?_, fun u hu => hrl u hu, ?_, fun z hz => ?_⟩
  · have HCA : Hid (Chg [] u (u.alloc (.cells #[.int .i64 k, .int .i64 w, .int .i64 s, .int .i64 c, .int .u32 st, .slice ia il ic, .int .i64 wri, .slice ra rl rc] 26))) := Lib.hid ((Chg.refl _ _).alloc _)
    have HLY := Lib.hid (hly (u.alloc (.cells #[.int .i64 k, .int .i64 w, .int .i64 s, .int .i64 c, .int .u32 st, .slice ia il ic, .int .i64 wri, .slice ra rl rc] 26)) (hu.chg HCA.out))
    subst hk
    generalize (cab.layL s w rl ini) = L at *
    clear hrl hleq hly hil hhd hsi hr hbd hrb hi h hu hw hs16 hmb
    go_enter Try.func56, Try.ntmps56
    go_wp2_with (go_at_call 86; refine HLY.out.mono ?_; rintro e w1 ⟨v, rfl, ho, hc⟩; have HO := Lib.hid ho; have HC := Lib.hid hc; clear ho hc)
    go_ret
    exact ⟨_, rfl, mem.own_base HO.out HCA.out.size, HCA.out.trans HC.out⟩
  · rw [hsi]
    have := hil.1
    have h3 : (ini.length : Int) ≤ s * w := by
      have h4 : 1 * w ≤ s * w := Int.mul_le_mul_of_nonneg_right (by omega) (by omega)
      omega
    simp [cab.layL, mem.fillL]; omega
  · have h2 := hi.2
    have h3 := h.st32
    rcases fill0_mem hz with rfl | hz
    · decide
    · exact h2 z hz
set_option maxHeartbeats 4000000 in
theorem lay_fifo (k w s c st : Int) (ia : Option Addr) (il ic : Nat) (wri : Int) (ra : Option Addr) (rl rc : Nat) (ini : List Int) (h : ObjW k w s c st il rl) (hk : k = 6) (hrb : rightB k w s c st il rl = true) (W : World) (hi : ReadsW W (.slice ia il ic) ini) : ∃ L, LayOK k w s c st ia il ic wri ra rl rc ini L := by
  have hr : (decide (k = 6) && rightB k w s c st il rl) = true := by rw [hrb, decide_eq_true hk]; rfl
  have hbd := rightB_bd hrb
  obtain ⟨wN, hw⟩ : ∃ wN : Nat, w = (wN : Int) := ⟨w.toNat, by omega⟩
  have hs16 : 1 ≤ s ∧ s ≤ 16 := by subst hk; simp only [rightB, decide_eq_true_eq] at hrb; omega
  have hmb := fifo.mul_bd (c := s) (w := w) (m := 16) ⟨by omega, hs16.2⟩ ⟨by omega, by omega⟩ (by omega)
  have hsi : rop.sizeI k w s c st il rl = (((2 + s * w).toNat : Nat) : Int) := by
    unfold rop.sizeI
    rw [if_pos hrb]
    have e1 : rop.headI k rl = 2 := by simp [rop.headI, hk]
    have e2 : rop.recordsI k s rl = s := by simp [rop.recordsI, hk]
    rw [e1, e2]
    omega
  have hhd : rop.headI k rl = ((2 : Nat) : Int) := by simp [rop.headI, hk]
  have hil : True := trivial
  have hly := fun u (hu : ReadsW u (.slice ia il ic) ini) => fifo.Lay_yes k w s c st ia il ic wri ra rl rc wN hw h hr u
  have hrl := fun u (hu : ReadsW u (.slice ia il ic) ini) => rop.RLay6_yes k w s c st ia il ic wri ra rl rc ((2 + s * w).toNat) h hrb hk hsi u
  have hleq : (((List.replicate ((2 + s * w).toNat) 0).set 0 st).set 1 st) = (fifo.layL s w st) := rfl
  rw [hleq] at hrl
  refine ⟨(fifo.layL s w st), fun u hu => ?_, fun u hu => hrl u hu, ?_, fun z hz => ?_⟩
  · have HCA : Hid (Chg [] u (u.alloc (.cells #[.int .i64 k, .int .i64 w, .int .i64 s, .int .i64 c, .int .u32 st, .slice ia il ic, .int .i64 wri, .slice ra rl rc] 26))) := Lib.hid ((Chg.refl _ _).alloc _)
    have HLY := Lib.hid (hly (u.alloc (.cells #[.int .i64 k, .int .i64 w, .int .i64 s, .int .i64 c, .int .u32 st, .slice ia il ic, .int .i64 wri, .slice ra rl rc] 26)) (hu.chg HCA.out))
    subst hk
    generalize (fifo.layL s w st) = L at *
    clear hrl hleq hly hil hhd hsi hr hbd hrb hi h hu hw hs16 hmb
    go_enter Try.func56, Try.ntmps56
    go_wp2_with (go_at_call 87; refine HLY.out.mono ?_; rintro e w1 ⟨v, rfl, ho, hc⟩; have HO := Lib.hid ho; have HC := Lib.hid hc; clear ho hc)
    go_ret
    exact ⟨_, rfl, mem.own_base HO.out HCA.out.size, HCA.out.trans HC.out⟩
  · rw [hsi]
    simp [fifo.layL]
  · have h2 := hi.2
    have h3 := h.st32
    rcases List.mem_or_eq_of_mem_set hz with hz | rfl
    · rcases List.mem_or_eq_of_mem_set hz with hz | rfl
      · rw [List.eq_of_mem_replicate hz]; decide
      · exact core.u32_wf h3
    · exact core.u32_wf h3
theorem lay_any (k w s c st : Int) (ia : Option Addr) (il ic : Nat) (wri : Int) (ra : Option Addr) (rl rc : Nat) (ini : List Int) (h : ObjW k w s c st il rl) (hrb : rightB k w s c st il rl = true) (W : World) (hi : ReadsW W (.slice ia il ic) ini) : ∃ L, LayOK k w s c st ia il ic wri ra rl rc ini L := by
  have hk : k = 1 ∨ k = 2 ∨ k = 3 ∨ k = 4 ∨ k = 5 ∨ k = 6 := by
    by_cases hh : k < 1 ∨ 6 < k
    · rw [rightB_out k w s c st il rl hh] at hrb; cases hrb
    · omega
  rcases hk with hk | hk | hk | hk | hk | hk
  · exact lay_four k w s c st ia il ic wri ra rl rc ini h hk hrb W hi
  · exact lay_chen k w s c st ia il ic wri ra rl rc ini h hk hrb W hi
  · exact lay_seq k w s c st ia il ic wri ra rl rc ini h hk hrb W hi
  · exact lay_ring k w s c st ia il ic wri ra rl rc ini h hk hrb W hi
  · exact lay_cab k w s c st ia il ic wri ra rl rc ini h hk hrb W hi
  · exact lay_fifo k w s c st ia il ic wri ra rl rc ini h hk hrb W hi
end Go.Proofs.Ytjplamoofkcojaa.lay
