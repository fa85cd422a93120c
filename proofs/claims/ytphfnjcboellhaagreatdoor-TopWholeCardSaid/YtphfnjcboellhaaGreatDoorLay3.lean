import Derived.Test.YtphfnjcboellhaaGreatDoorSys
import Derived.Test.YtphfnjcboellhaaGreatDoorFourB
import Derived.Test.YtphfnjcboellhaaGreatDoorSeqB
import Derived.Test.YtphfnjcboellhaaGreatDoorRing3
import Derived.Test.YtphfnjcboellhaaGreatDoorFifo3
import Derived.Test.YtphfnjcboellhaaGreatDoorCab3
import Derived.Test.YtphfnjcboellhaaGreatDoorChen3
import Derived.Test.YtphfnjcboellhaaGreatDoorRop7
import Derived.Deep.CutBlock
namespace Go.Proofs.YtphfnjcboellhaaGreatDoor.lay
open Go Go.RowKit kit obj mem
set_option maxRecDepth 20000
def Ob.size (o : Ob) : Int := rop.sizeI o.k o.w o.s o.c o.st o.il o.rl
theorem Ob.size_bd (o : Ob) : 0 <= o.size /\ o.size <= 1000 := by
 unfold Ob.size rop.sizeI
 split
 · rename_i hR
   have h1 := rop.records_bd hR
   have h2 := rightB_bd hR
   have h3 := rop.mul16 h1 ⟨h2.1, h2.2.1⟩
   have h4 : 1 <= rop.headI o.k o.rl /\ rop.headI o.k o.rl <= 20 := by unfold rop.headI; repeat (split <;> try omega)
   omega
 · omega
theorem size_four (k w s c st : Int) (ia : Option Addr) (il ic : Nat) (wr : Int) (ra : Option Addr) (rl rc : Nat) (h : ObjW k w s c st il rl) (W : World) :
 Calls Tryz.prog 44 #[.agg #[.int .i64 k, .int .i64 w, .int .i64 s, .int .i64 c, .int .u32 st, .slice ia il ic, .int .i64 wr, .slice ra rl rc]] W fun e W' => e = .returned (.int .i64 (if k = 1 then rop.sizeI k w s c st il rl else 0)) /\ Chg [] W W' := by
 cases hr : (decide (k = 1) && rightB k w s c st il rl)
 · have hv : (if k = 1 then rop.sizeI k w s c st il rl else 0) = 0 := by
    by_cases hk : k = 1
    · rw [if_pos hk]; simp [hk] at hr; simp [rop.sizeI, hk, hr]
    · rw [if_neg hk]
   rw [hv]
   exact four.Size_no k w s c st ia il ic wr ra rl rc h hr W
 · have hr2 := hr
   simp only [Bool.and_eq_true, decide_eq_true_eq] at hr2
   obtain ⟨hk, hR⟩ := hr2
   have hb := rightB_bd hR
   have hs0 : 0 <= s * w := Int.mul_nonneg (by omega) (by omega)
   have hr0 : 0 <= ((rl : Int) + 2) * w := Int.mul_nonneg (by omega) (by omega)
   obtain ⟨wN, hw⟩ : ∃ wN : Nat, w = (wN : Int) := ⟨w.toNat, by omega⟩
   have h1 := four.Size_yes k w s c st ia il ic wr ra rl rc wN hw h hr W
   subst hk
   refine h1.mono ?_
   rintro e w' ⟨rfl, hc⟩
   refine ⟨ret_int ?_, hc⟩
   rw [if_pos rfl]
   simp only [rop.sizeI, hR, if_true, rop.headI, rop.recordsI]
   simp
   try omega
theorem size_chen (k w s c st : Int) (ia : Option Addr) (il ic : Nat) (wr : Int) (ra : Option Addr) (rl rc : Nat) (h : ObjW k w s c st il rl) (W : World) :
 Calls Tryz.prog 45 #[.agg #[.int .i64 k, .int .i64 w, .int .i64 s, .int .i64 c, .int .u32 st, .slice ia il ic, .int .i64 wr, .slice ra rl rc]] W fun e W' => e = .returned (.int .i64 (if k = 2 then rop.sizeI k w s c st il rl else 0)) /\ Chg [] W W' := by
 cases hr : (decide (k = 2) && rightB k w s c st il rl)
 · have hv : (if k = 2 then rop.sizeI k w s c st il rl else 0) = 0 := by
    by_cases hk : k = 2
    · rw [if_pos hk]; simp [hk] at hr; simp [rop.sizeI, hk, hr]
    · rw [if_neg hk]
   rw [hv]
   exact chen.Size_no k w s c st ia il ic wr ra rl rc h hr W
 · have hr2 := hr
   simp only [Bool.and_eq_true, decide_eq_true_eq] at hr2
   obtain ⟨hk, hR⟩ := hr2
   have hb := rightB_bd hR
   have hs0 : 0 <= s * w := Int.mul_nonneg (by omega) (by omega)
   have hr0 : 0 <= ((rl : Int) + 2) * w := Int.mul_nonneg (by omega) (by omega)
   obtain ⟨wN, hw⟩ : ∃ wN : Nat, w = (wN : Int) := ⟨w.toNat, by omega⟩
   have h1 := chen.Size_yes k w s c st ia il ic wr ra rl rc wN hw h hr W
   subst hk
   refine h1.mono ?_
   rintro e w' ⟨rfl, hc⟩
   refine ⟨ret_int ?_, hc⟩
   rw [if_pos rfl]
   simp only [rop.sizeI, hR, if_true, rop.headI, rop.recordsI]
   simp
   try omega
theorem size_seq (k w s c st : Int) (ia : Option Addr) (il ic : Nat) (wr : Int) (ra : Option Addr) (rl rc : Nat) (h : ObjW k w s c st il rl) (W : World) :
 Calls Tryz.prog 46 #[.agg #[.int .i64 k, .int .i64 w, .int .i64 s, .int .i64 c, .int .u32 st, .slice ia il ic, .int .i64 wr, .slice ra rl rc]] W fun e W' => e = .returned (.int .i64 (if k = 3 then rop.sizeI k w s c st il rl else 0)) /\ Chg [] W W' := by
 cases hr : (decide (k = 3) && rightB k w s c st il rl)
 · have hv : (if k = 3 then rop.sizeI k w s c st il rl else 0) = 0 := by
    by_cases hk : k = 3
    · rw [if_pos hk]; simp [hk] at hr; simp [rop.sizeI, hk, hr]
    · rw [if_neg hk]
   rw [hv]
   exact seq.Size_no k w s c st ia il ic wr ra rl rc h hr W
 · have hr2 := hr
   simp only [Bool.and_eq_true, decide_eq_true_eq] at hr2
   obtain ⟨hk, hR⟩ := hr2
   have hb := rightB_bd hR
   have hs0 : 0 <= s * w := Int.mul_nonneg (by omega) (by omega)
   have hr0 : 0 <= ((rl : Int) + 2) * w := Int.mul_nonneg (by omega) (by omega)
   obtain ⟨wN, hw⟩ : ∃ wN : Nat, w = (wN : Int) := ⟨w.toNat, by omega⟩
   have h1 := seq.Size_yes k w s c st ia il ic wr ra rl rc wN hw h hr W
   subst hk
   refine h1.mono ?_
   rintro e w' ⟨rfl, hc⟩
   refine ⟨ret_int ?_, hc⟩
   rw [if_pos rfl]
   simp only [rop.sizeI, hR, if_true, rop.headI, rop.recordsI]
   simp
   try omega
theorem size_ring (k w s c st : Int) (ia : Option Addr) (il ic : Nat) (wr : Int) (ra : Option Addr) (rl rc : Nat) (h : ObjW k w s c st il rl) (W : World) :
 Calls Tryz.prog 47 #[.agg #[.int .i64 k, .int .i64 w, .int .i64 s, .int .i64 c, .int .u32 st, .slice ia il ic, .int .i64 wr, .slice ra rl rc]] W fun e W' => e = .returned (.int .i64 (if k = 4 then rop.sizeI k w s c st il rl else 0)) /\ Chg [] W W' := by
 cases hr : (decide (k = 4) && rightB k w s c st il rl)
 · have hv : (if k = 4 then rop.sizeI k w s c st il rl else 0) = 0 := by
    by_cases hk : k = 4
    · rw [if_pos hk]; simp [hk] at hr; simp [rop.sizeI, hk, hr]
    · rw [if_neg hk]
   rw [hv]
   exact ring.Size_no k w s c st ia il ic wr ra rl rc h hr W
 · have hr2 := hr
   simp only [Bool.and_eq_true, decide_eq_true_eq] at hr2
   obtain ⟨hk, hR⟩ := hr2
   have hb := rightB_bd hR
   have hs0 : 0 <= s * w := Int.mul_nonneg (by omega) (by omega)
   have hr0 : 0 <= ((rl : Int) + 2) * w := Int.mul_nonneg (by omega) (by omega)
   obtain ⟨wN, hw⟩ : ∃ wN : Nat, w = (wN : Int) := ⟨w.toNat, by omega⟩
   have h1 := ring.Size_yes k w s c st ia il ic wr ra rl rc wN hw h hr W
   subst hk
   refine h1.mono ?_
   rintro e w' ⟨rfl, hc⟩
   refine ⟨ret_int ?_, hc⟩
   rw [if_pos rfl]
   simp only [rop.sizeI, hR, if_true, rop.headI, rop.recordsI]
   simp
   try omega
theorem size_cab (k w s c st : Int) (ia : Option Addr) (il ic : Nat) (wr : Int) (ra : Option Addr) (rl rc : Nat) (h : ObjW k w s c st il rl) (W : World) :
 Calls Tryz.prog 48 #[.agg #[.int .i64 k, .int .i64 w, .int .i64 s, .int .i64 c, .int .u32 st, .slice ia il ic, .int .i64 wr, .slice ra rl rc]] W fun e W' => e = .returned (.int .i64 (if k = 5 then rop.sizeI k w s c st il rl else 0)) /\ Chg [] W W' := by
 cases hr : (decide (k = 5) && rightB k w s c st il rl)
 · have hv : (if k = 5 then rop.sizeI k w s c st il rl else 0) = 0 := by
    by_cases hk : k = 5
    · rw [if_pos hk]; simp [hk] at hr; simp [rop.sizeI, hk, hr]
    · rw [if_neg hk]
   rw [hv]
   exact cab.Size_no k w s c st ia il ic wr ra rl rc h hr W
 · have hr2 := hr
   simp only [Bool.and_eq_true, decide_eq_true_eq] at hr2
   obtain ⟨hk, hR⟩ := hr2
   have hb := rightB_bd hR
   have hs0 : 0 <= s * w := Int.mul_nonneg (by omega) (by omega)
   have hr0 : 0 <= ((rl : Int) + 2) * w := Int.mul_nonneg (by omega) (by omega)
   obtain ⟨wN, hw⟩ : ∃ wN : Nat, w = (wN : Int) := ⟨w.toNat, by omega⟩
   have h1 := cab.Size_yes k w s c st ia il ic wr ra rl rc wN hw h hr W
   subst hk
   refine h1.mono ?_
   rintro e w' ⟨rfl, hc⟩
   refine ⟨ret_int ?_, hc⟩
   rw [if_pos rfl]
   simp only [rop.sizeI, hR, if_true, rop.headI, rop.recordsI]
   simp
   try omega
theorem size_fifo (k w s c st : Int) (ia : Option Addr) (il ic : Nat) (wr : Int) (ra : Option Addr) (rl rc : Nat) (h : ObjW k w s c st il rl) (W : World) :
 Calls Tryz.prog 49 #[.agg #[.int .i64 k, .int .i64 w, .int .i64 s, .int .i64 c, .int .u32 st, .slice ia il ic, .int .i64 wr, .slice ra rl rc]] W fun e W' => e = .returned (.int .i64 (if k = 6 then rop.sizeI k w s c st il rl else 0)) /\ Chg [] W W' := by
 cases hr : (decide (k = 6) && rightB k w s c st il rl)
 · have hv : (if k = 6 then rop.sizeI k w s c st il rl else 0) = 0 := by
    by_cases hk : k = 6
    · rw [if_pos hk]; simp [hk] at hr; simp [rop.sizeI, hk, hr]
    · rw [if_neg hk]
   rw [hv]
   exact fifo.Size_no k w s c st ia il ic wr ra rl rc h hr W
 · have hr2 := hr
   simp only [Bool.and_eq_true, decide_eq_true_eq] at hr2
   obtain ⟨hk, hR⟩ := hr2
   have hb := rightB_bd hR
   have hs0 : 0 <= s * w := Int.mul_nonneg (by omega) (by omega)
   have hr0 : 0 <= ((rl : Int) + 2) * w := Int.mul_nonneg (by omega) (by omega)
   obtain ⟨wN, hw⟩ : ∃ wN : Nat, w = (wN : Int) := ⟨w.toNat, by omega⟩
   have h1 := fifo.Size_yes k w s c st ia il ic wr ra rl rc wN hw h hr W
   subst hk
   refine h1.mono ?_
   rintro e w' ⟨rfl, hc⟩
   refine ⟨ret_int ?_, hc⟩
   rw [if_pos rfl]
   simp only [rop.sizeI, hR, if_true, rop.headI, rop.recordsI]
   simp
   try omega
set_option maxHeartbeats 2000000 in
theorem oSize_any (k w s c st : Int) (ia : Option Addr) (il ic : Nat) (wr : Int) (ra : Option Addr) (rl rc : Nat) (h : ObjW k w s c st il rl) (W : World) :
 Calls Tryz.prog 28 #[.agg #[.int .i64 k, .int .i64 w, .int .i64 s, .int .i64 c, .int .u32 st, .slice ia il ic, .int .i64 wr, .slice ra rl rc]] W fun e W' => e = .returned (.int .i64 (rop.sizeI k w s c st il rl)) /\ Chg [] W W' := by
 have HO := hid h
 have HCC : Hid (Chg [] W (W.alloc (.cells #[.int .i64 k, .int .i64 w, .int .i64 s, .int .i64 c, .int .u32 st, .slice ia il ic, .int .i64 wr, .slice ra rl rc] 26))) := hid ((Chg.refl _ _).alloc _)
 obtain ⟨R, hR⟩ : ∃ R, rop.sizeI k w s c st il rl = R := ⟨_, rfl⟩
 have HR := hid hR
 rw [hR]
 clear h hR
 by_cases h1 : k = 1
 · have b : (k == 1) = true := by simpa using h1
   have HS : Hid (∀ V, Calls Tryz.prog 44 #[.agg #[.int .i64 k, .int .i64 w, .int .i64 s, .int .i64 c, .int .u32 st, .slice ia il ic, .int .i64 wr, .slice ra rl rc]] V fun e W' => e = .returned (.int .i64 R) /\ Chg [] V W') := hid (fun V => by have := size_four k w s c st ia il ic wr ra rl rc HO.out V; rwa [if_pos h1, HR.out] at this)
   skip
   clear h1 
   go_enter Tryz.func28, Tryz.ntmps28
   go_wp2_with (go_at_call 44; refine (HS.out _).mono ?_; rintro e w1 ⟨rfl, hc⟩; have HC := hid (HCC.out.trans hc); clear hc)
   go_ret
   exact ⟨rfl, HC.out⟩
 by_cases h2 : k = 2
 · have b : (k == 2) = true := by simpa using h2
   have HS : Hid (∀ V, Calls Tryz.prog 45 #[.agg #[.int .i64 k, .int .i64 w, .int .i64 s, .int .i64 c, .int .u32 st, .slice ia il ic, .int .i64 wr, .slice ra rl rc]] V fun e W' => e = .returned (.int .i64 R) /\ Chg [] V W') := hid (fun V => by have := size_chen k w s c st ia il ic wr ra rl rc HO.out V; rwa [if_pos h2, HR.out] at this)
   have n1 : (k == 1) = false := by simpa using h1
   clear h2 h1
   go_enter Tryz.func28, Tryz.ntmps28
   go_wp2_with (go_at_call 45; refine (HS.out _).mono ?_; rintro e w1 ⟨rfl, hc⟩; have HC := hid (HCC.out.trans hc); clear hc)
   go_ret
   exact ⟨rfl, HC.out⟩
 by_cases h3 : k = 3
 · have b : (k == 3) = true := by simpa using h3
   have HS : Hid (∀ V, Calls Tryz.prog 46 #[.agg #[.int .i64 k, .int .i64 w, .int .i64 s, .int .i64 c, .int .u32 st, .slice ia il ic, .int .i64 wr, .slice ra rl rc]] V fun e W' => e = .returned (.int .i64 R) /\ Chg [] V W') := hid (fun V => by have := size_seq k w s c st ia il ic wr ra rl rc HO.out V; rwa [if_pos h3, HR.out] at this)
   have n1 : (k == 1) = false := by simpa using h1
   have n2 : (k == 2) = false := by simpa using h2
   clear h3 h1 h2
   go_enter Tryz.func28, Tryz.ntmps28
   go_wp2_with (go_at_call 46; refine (HS.out _).mono ?_; rintro e w1 ⟨rfl, hc⟩; have HC := hid (HCC.out.trans hc); clear hc)
   go_ret
   exact ⟨rfl, HC.out⟩
 by_cases h4 : k = 4
 · have b : (k == 4) = true := by simpa using h4
   have HS : Hid (∀ V, Calls Tryz.prog 47 #[.agg #[.int .i64 k, .int .i64 w, .int .i64 s, .int .i64 c, .int .u32 st, .slice ia il ic, .int .i64 wr, .slice ra rl rc]] V fun e W' => e = .returned (.int .i64 R) /\ Chg [] V W') := hid (fun V => by have := size_ring k w s c st ia il ic wr ra rl rc HO.out V; rwa [if_pos h4, HR.out] at this)
   have n1 : (k == 1) = false := by simpa using h1
   have n2 : (k == 2) = false := by simpa using h2
   have n3 : (k == 3) = false := by simpa using h3
   clear h4 h1 h2 h3
   go_enter Tryz.func28, Tryz.ntmps28
   go_wp2_with (go_at_call 47; refine (HS.out _).mono ?_; rintro e w1 ⟨rfl, hc⟩; have HC := hid (HCC.out.trans hc); clear hc)
   go_ret
   exact ⟨rfl, HC.out⟩
 by_cases h5 : k = 5
 · have b : (k == 5) = true := by simpa using h5
   have HS : Hid (∀ V, Calls Tryz.prog 48 #[.agg #[.int .i64 k, .int .i64 w, .int .i64 s, .int .i64 c, .int .u32 st, .slice ia il ic, .int .i64 wr, .slice ra rl rc]] V fun e W' => e = .returned (.int .i64 R) /\ Chg [] V W') := hid (fun V => by have := size_cab k w s c st ia il ic wr ra rl rc HO.out V; rwa [if_pos h5, HR.out] at this)
   have n1 : (k == 1) = false := by simpa using h1
   have n2 : (k == 2) = false := by simpa using h2
   have n3 : (k == 3) = false := by simpa using h3
   have n4 : (k == 4) = false := by simpa using h4
   clear h5 h1 h2 h3 h4
   go_enter Tryz.func28, Tryz.ntmps28
   go_wp2_with (go_at_call 48; refine (HS.out _).mono ?_; rintro e w1 ⟨rfl, hc⟩; have HC := hid (HCC.out.trans hc); clear hc)
   go_ret
   exact ⟨rfl, HC.out⟩
 have HS : Hid (∀ V, Calls Tryz.prog 49 #[.agg #[.int .i64 k, .int .i64 w, .int .i64 s, .int .i64 c, .int .u32 st, .slice ia il ic, .int .i64 wr, .slice ra rl rc]] V fun e W' => e = .returned (.int .i64 R) /\ Chg [] V W') := hid (fun V => by
  have := size_fifo k w s c st ia il ic wr ra rl rc HO.out V
  by_cases h6 : k = 6
  · rwa [if_pos h6, HR.out] at this
  · rw [if_neg h6] at this
    have h0 : rop.sizeI k w s c st il rl = 0 := by simp [rop.sizeI, rightB_out k w s c st il rl (by omega)]
    rwa [<- HR.out, h0])
 have n1 : (k == 1) = false := by simpa using h1
 have n2 : (k == 2) = false := by simpa using h2
 have n3 : (k == 3) = false := by simpa using h3
 have n4 : (k == 4) = false := by simpa using h4
 have n5 : (k == 5) = false := by simpa using h5
 clear h1 h2 h3 h4 h5
 go_enter Tryz.func28, Tryz.ntmps28
 go_wp2_with (go_at_call 49; refine (HS.out _).mono ?_; rintro e w1 ⟨rfl, hc⟩; have HC := hid (HCC.out.trans hc); clear hc)
 go_ret
 exact ⟨rfl, HC.out⟩
end Go.Proofs.YtphfnjcboellhaaGreatDoor.lay
