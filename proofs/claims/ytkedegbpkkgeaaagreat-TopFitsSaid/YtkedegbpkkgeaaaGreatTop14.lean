import Derived.Test.YtkedegbpkkgeaaaGreatTop8
import Derived.Test.YtkedegbpkkgeaaaGreatTop7
import Derived.Test.YtkedegbpkkgeaaaGreatTop13
import Derived.Test.YtkedegbpkkgeaaaGreatTop9
import Derived.Test.YtkedegbpkkgeaaaGreatTop5
import Derived.Deep.CutBlock
/- Systems: how many words an object has. -/
namespace Go.Proofs.YtkedegbpkkgeaaaGreat.lay
open Go Go.RowKit Go.Proofs.YtkedegbpkkgeaaaGreat.kit Go.Proofs.YtkedegbpkkgeaaaGreat.obj Go.Proofs.YtkedegbpkkgeaaaGreat.mem
set_option linter.unusedVariables false
set_option linter.unusedSimpArgs false
set_option maxRecDepth 20000

def Ob.size (o : Ob) : Int := rop.sizeI o.k o.w o.s o.c o.st o.il o.rl
theorem Ob.size_bd (o : Ob) : 0 ≤ o.size ∧ o.size ≤ 1000 := by
  unfold Ob.size rop.sizeI
  split
  · rename_i hR
    have h1 := rop.records_bd hR
    have h2 := rightB_bd hR
    have h3 := rop.mul16 h1 ⟨h2.1, h2.2.1⟩
    have h4 : 1 ≤ rop.headI o.k o.rl ∧ rop.headI o.k o.rl ≤ 20 := by unfold rop.headI; repeat (split <;> try omega)
    omega
  · omega
theorem size_four (k w s c st : Int) (ia : Option Addr) (il ic : Nat) (wr : Int) (ra : Option Addr) (rl rc : Nat) (h : ObjW k w s c st il rl) (W : World) :
    Calls Tryz.prog 141 #[.agg #[.int .i64 k, .int .i64 w, .int .i64 s, .int .i64 c, .int .u32 st, .slice ia il ic, .int .i64 wr, .slice ra rl rc]] W fun e W' => e = .returned (.int .i64 (if k = 1 then rop.sizeI k w s c st il rl else 0)) ∧ Chg [] W W' := by
  cases hr : (decide (k = 1) && rightB k w s c st il rl)
  · have hv : (if k = 1 then rop.sizeI k w s c st il rl else 0) = 0 := by
      by_cases hk : k = 1
      · rw [if_pos hk]; simp [hk] at hr; simp [rop.sizeI, hk, hr]
      · rw [if_neg hk]
    rw [hv]
    exact four.Size_no k w s c st ia il ic wr ra rl rc h hr W
  · have hr2 := hr
    simp only [Bool.and_eq_true, decide_eq_true_eq] at hr2
    obtain ⟨hk, hR⟩ := hr2
    have hb := rightB_bd hR
    have hs0 : 0 ≤ s * w := Int.mul_nonneg (by omega) (by omega)
    have hr0 : 0 ≤ ((rl : Int) + 2) * w := Int.mul_nonneg (by omega) (by omega)
    obtain ⟨wN, hw⟩ : ∃ wN : Nat, w = (wN : Int) := ⟨w.toNat, by omega⟩
    have h1 := four.Size_yes k w s c st ia il ic wr ra rl rc wN hw h hr W
    subst hk
    refine h1.mono ?_
    rintro e w' ⟨rfl, hc⟩
    refine ⟨ret_int ?_, hc⟩
    rw [if_pos rfl]
    simp only [rop.sizeI, hR, if_true, rop.headI, rop.recordsI]
    simp
    try omega
theorem size_chen (k w s c st : Int) (ia : Option Addr) (il ic : Nat) (wr : Int) (ra : Option Addr) (rl rc : Nat) (h : ObjW k w s c st il rl) (W : World) :
    Calls Tryz.prog 142 #[.agg #[.int .i64 k, .int .i64 w, .int .i64 s, .int .i64 c, .int .u32 st, .slice ia il ic, .int .i64 wr, .slice ra rl rc]] W fun e W' => e = .returned (.int .i64 (if k = 2 then rop.sizeI k w s c st il rl else 0)) ∧ Chg [] W W' := by
  cases hr : (decide (k = 2) && rightB k w s c st il rl)
  · have hv : (if k = 2 then rop.sizeI k w s c st il rl else 0) = 0 := by
      by_cases hk : k = 2
      · rw [if_pos hk]; simp [hk] at hr; simp [rop.sizeI, hk, hr]
      · rw [if_neg hk]
    rw [hv]
    exact chen.Size_no k w s c st ia il ic wr ra rl rc h hr W
  · have hr2 := hr
    simp only [Bool.and_eq_true, decide_eq_true_eq] at hr2
    obtain ⟨hk, hR⟩ := hr2
    have hb := rightB_bd hR
    have hs0 : 0 ≤ s * w := Int.mul_nonneg (by omega) (by omega)
    have hr0 : 0 ≤ ((rl : Int) + 2) * w := Int.mul_nonneg (by omega) (by omega)
    obtain ⟨wN, hw⟩ : ∃ wN : Nat, w = (wN : Int) := ⟨w.toNat, by omega⟩
    have h1 := chen.Size_yes k w s c st ia il ic wr ra rl rc wN hw h hr W
    subst hk
    refine h1.mono ?_
    rintro e w' ⟨rfl, hc⟩
    refine ⟨ret_int ?_, hc⟩
    rw [if_pos rfl]
    simp only [rop.sizeI, hR, if_true, rop.headI, rop.recordsI]
    simp
    try omega
theorem size_seq (k w s c st : Int) (ia : Option Addr) (il ic : Nat) (wr : Int) (ra : Option Addr) (rl rc : Nat) (h : ObjW k w s c st il rl) (W : World) :
    Calls Tryz.prog 143 #[.agg #[.int .i64 k, .int .i64 w, .int .i64 s, .int .i64 c, .int .u32 st, .slice ia il ic, .int .i64 wr, .slice ra rl rc]] W fun e W' => e = .returned (.int .i64 (if k = 3 then rop.sizeI k w s c st il rl else 0)) ∧ Chg [] W W' := by
  cases hr : (decide (k = 3) && rightB k w s c st il rl)
  · have hv : (if k = 3 then rop.sizeI k w s c st il rl else 0) = 0 := by
      by_cases hk : k = 3
      · rw [if_pos hk]; simp [hk] at hr; simp [rop.sizeI, hk, hr]
      · rw [if_neg hk]
    rw [hv]
    exact seq.Size_no k w s c st ia il ic wr ra rl rc h hr W
  · have hr2 := hr
    simp only [Bool.and_eq_true, decide_eq_true_eq] at hr2
    obtain ⟨hk, hR⟩ := hr2
    have hb := rightB_bd hR
    have hs0 : 0 ≤ s * w := Int.mul_nonneg (by omega) (by omega)
    have hr0 : 0 ≤ ((rl : Int) + 2) * w := Int.mul_nonneg (by omega) (by omega)
    obtain ⟨wN, hw⟩ : ∃ wN : Nat, w = (wN : Int) := ⟨w.toNat, by omega⟩
    have h1 := seq.Size_yes k w s c st ia il ic wr ra rl rc wN hw h hr W
    subst hk
    refine h1.mono ?_
    rintro e w' ⟨rfl, hc⟩
    refine ⟨ret_int ?_, hc⟩
    rw [if_pos rfl]
    simp only [rop.sizeI, hR, if_true, rop.headI, rop.recordsI]
    simp
    try omega
theorem size_ring (k w s c st : Int) (ia : Option Addr) (il ic : Nat) (wr : Int) (ra : Option Addr) (rl rc : Nat) (h : ObjW k w s c st il rl) (W : World) :
    Calls Tryz.prog 144 #[.agg #[.int .i64 k, .int .i64 w, .int .i64 s, .int .i64 c, .int .u32 st, .slice ia il ic, .int .i64 wr, .slice ra rl rc]] W fun e W' => e = .returned (.int .i64 (if k = 4 then rop.sizeI k w s c st il rl else 0)) ∧ Chg [] W W' := by
  cases hr : (decide (k = 4) && rightB k w s c st il rl)
  · have hv : (if k = 4 then rop.sizeI k w s c st il rl else 0) = 0 := by
      by_cases hk : k = 4
      · rw [if_pos hk]; simp [hk] at hr; simp [rop.sizeI, hk, hr]
      · rw [if_neg hk]
    rw [hv]
    exact ring.Size_no k w s c st ia il ic wr ra rl rc h hr W
  · have hr2 := hr
    simp only [Bool.and_eq_true, decide_eq_true_eq] at hr2
    obtain ⟨hk, hR⟩ := hr2
    have hb := rightB_bd hR
    have hs0 : 0 ≤ s * w := Int.mul_nonneg (by omega) (by omega)
    have hr0 : 0 ≤ ((rl : Int) + 2) * w := Int.mul_nonneg (by omega) (by omega)
    obtain ⟨wN, hw⟩ : ∃ wN : Nat, w = (wN : Int) := ⟨w.toNat, by omega⟩
    have h1 := ring.Size_yes k w s c st ia il ic wr ra rl rc wN hw h hr W
    subst hk
    refine h1.mono ?_
    rintro e w' ⟨rfl, hc⟩
    refine ⟨ret_int ?_, hc⟩
    rw [if_pos rfl]
    simp only [rop.sizeI, hR, if_true, rop.headI, rop.recordsI]
    simp
    try omega
theorem size_cab (k w s c st : Int) (ia : Option Addr) (il ic : Nat) (wr : Int) (ra : Option Addr) (rl rc : Nat) (h : ObjW k w s c st il rl) (W : World) :
    Calls Tryz.prog 145 #[.agg #[.int .i64 k, .int .i64 w, .int .i64 s, .int .i64 c, .int .u32 st, .slice ia il ic, .int .i64 wr, .slice ra rl rc]] W fun e W' => e = .returned (.int .i64 (if k = 5 then rop.sizeI k w s c st il rl else 0)) ∧ Chg [] W W' := by
  cases hr : (decide (k = 5) && rightB k w s c st il rl)
  · have hv : (if k = 5 then rop.sizeI k w s c st il rl else 0) = 0 := by
      by_cases hk : k = 5
      · rw [if_pos hk]; simp [hk] at hr; simp [rop.sizeI, hk, hr]
      · rw [if_neg hk]
    rw [hv]
    exact cab.Size_no k w s c st ia il ic wr ra rl rc h hr W
  · have hr2 := hr
    simp only [Bool.and_eq_true, decide_eq_true_eq] at hr2
    obtain ⟨hk, hR⟩ := hr2
    have hb := rightB_bd hR
    have hs0 : 0 ≤ s * w := Int.mul_nonneg (by omega) (by omega)
    have hr0 : 0 ≤ ((rl : Int) + 2) * w := Int.mul_nonneg (by omega) (by omega)
    obtain ⟨wN, hw⟩ : ∃ wN : Nat, w = (wN : Int) := ⟨w.toNat, by omega⟩
    have h1 := cab.Size_yes k w s c st ia il ic wr ra rl rc wN hw h hr W
    subst hk
    refine h1.mono ?_
    rintro e w' ⟨rfl, hc⟩
    refine ⟨ret_int ?_, hc⟩
    rw [if_pos rfl]
    simp only [rop.sizeI, hR, if_true, rop.headI, rop.recordsI]
    simp
    try omega
theorem size_fifo (k w s c st : Int) (ia : Option Addr) (il ic : Nat) (wr : Int) (ra : Option Addr) (rl rc : Nat) (h : ObjW k w s c st il rl) (W : World) :
    Calls Tryz.prog 146 #[.agg #[.int .i64 k, .int .i64 w, .int .i64 s, .int .i64 c, .int .u32 st, .slice ia il ic, .int .i64 wr, .slice ra rl rc]] W fun e W' => e = .returned (.int .i64 (if k = 6 then rop.sizeI k w s c st il rl else 0)) ∧ Chg [] W W' := by
  cases hr : (decide (k = 6) && rightB k w s c st il rl)
  · have hv : (if k = 6 then rop.sizeI k w s c st il rl else 0) = 0 := by
      by_cases hk : k = 6
      · rw [if_pos hk]; simp [hk] at hr; simp [rop.sizeI, hk, hr]
      · rw [if_neg hk]
    rw [hv]
    exact fifo.Size_no k w s c st ia il ic wr ra rl rc h hr W
  · have hr2 := hr
    simp only [Bool.and_eq_true, decide_eq_true_eq] at hr2
    obtain ⟨hk, hR⟩ := hr2
    have hb := rightB_bd hR
    have hs0 : 0 ≤ s * w := Int.mul_nonneg (by omega) (by omega)
    have hr0 : 0 ≤ ((rl : Int) + 2) * w := Int.mul_nonneg (by omega) (by omega)
    obtain ⟨wN, hw⟩ : ∃ wN : Nat, w = (wN : Int) := ⟨w.toNat, by omega⟩
    have h1 := fifo.Size_yes k w s c st ia il ic wr ra rl rc wN hw h hr W
    subst hk
    refine h1.mono ?_
    rintro e w' ⟨rfl, hc⟩
    refine ⟨ret_int ?_, hc⟩
    rw [if_pos rfl]
    simp only [rop.sizeI, hR, if_true, rop.headI, rop.recordsI]
    simp
    try omega
set_option maxHeartbeats 2000000 in
theorem oSize_any (k w s c st : Int) (ia : Option Addr) (il ic : Nat) (wr : Int) (ra : Option Addr) (rl rc : Nat) (h : ObjW k w s c st il rl) (W : World) :
    Calls Tryz.prog 120 #[.agg #[.int .i64 k, .int .i64 w, .int .i64 s, .int .i64 c, .int .u32 st, .slice ia il ic, .int .i64 wr, .slice ra rl rc]] W fun e W' => e = .returned (.int .i64 (rop.sizeI k w s c st il rl)) ∧ Chg [] W W' := by
  have HO := Lib.hid h
  have HCC : Hid (Chg [] W (W.alloc (.cells #[.int .i64 k, .int .i64 w, .int .i64 s, .int .i64 c, .int .u32 st, .slice ia il ic, .int .i64 wr, .slice ra rl rc] 46))) := Lib.hid ((Chg.refl _ _).alloc _)
  obtain ⟨R, hR⟩ : ∃ R, rop.sizeI k w s c st il rl = R := ⟨_, rfl⟩
  have HR := Lib.hid hR
  rw [hR]
  clear h hR
  by_cases h1 : k = 1
  · have b : (k == 1) = true := by simpa using h1
    have HS : Hid (∀ V, Calls Tryz.prog 141 #[.agg #[.int .i64 k, .int .i64 w, .int .i64 s, .int .i64 c, .int .u32 st, .slice ia il ic, .int .i64 wr, .slice ra rl rc]] V fun e W' => e = .returned (.int .i64 R) ∧ Chg [] V W') := Lib.hid (fun V => by have := size_four k w s c st ia il ic wr ra rl rc HO.out V; rwa [if_pos h1, HR.out] at this)
    skip
    clear h1 
    go_enter Tryz.func120, Tryz.ntmps120
    go_wp2_with (go_at_call 141; refine (HS.out _).mono ?_; rintro e w1 ⟨rfl, hc⟩; have HC := Lib.hid (HCC.out.trans hc); clear hc)
    go_ret
    exact ⟨rfl, HC.out⟩
  by_cases h2 : k = 2
  · have b : (k == 2) = true := by simpa using h2
    have HS : Hid (∀ V, Calls Tryz.prog 142 #[.agg #[.int .i64 k, .int .i64 w, .int .i64 s, .int .i64 c, .int .u32 st, .slice ia il ic, .int .i64 wr, .slice ra rl rc]] V fun e W' => e = .returned (.int .i64 R) ∧ Chg [] V W') := Lib.hid (fun V => by have := size_chen k w s c st ia il ic wr ra rl rc HO.out V; rwa [if_pos h2, HR.out] at this)
    have n1 : (k == 1) = false := by simpa using h1
    clear h2 h1
    go_enter Tryz.func120, Tryz.ntmps120
    go_wp2_with (go_at_call 142; refine (HS.out _).mono ?_; rintro e w1 ⟨rfl, hc⟩; have HC := Lib.hid (HCC.out.trans hc); clear hc)
    go_ret
    exact ⟨rfl, HC.out⟩
  by_cases h3 : k = 3
  · have b : (k == 3) = true := by simpa using h3
    have HS : Hid (∀ V, Calls Tryz.prog 143 #[.agg #[.int .i64 k, .int .i64 w, .int .i64 s, .int .i64 c, .int .u32 st, .slice ia il ic, .int .i64 wr, .slice ra rl rc]] V fun e W' => e = .returned (.int .i64 R) ∧ Chg [] V W') := Lib.hid (fun V => by have := size_seq k w s c st ia il ic wr ra rl rc HO.out V; rwa [if_pos h3, HR.out] at this)
    have n1 : (k == 1) = false := by simpa using h1
    have n2 : (k == 2) = false := by simpa using h2
    clear h3 h1 h2
    go_enter Tryz.func120, Tryz.ntmps120
    go_wp2_with (go_at_call 143; refine (HS.out _).mono ?_; rintro e w1 ⟨rfl, hc⟩; have HC := Lib.hid (HCC.out.trans hc); clear hc)
    go_ret
    exact ⟨rfl, HC.out⟩
  by_cases h4 : k = 4
  · have b : (k == 4) = true := by simpa using h4
    have HS : Hid (∀ V, Calls Tryz.prog 144 #[.agg #[.int .i64 k, .int .i64 w, .int .i64 s, .int .i64 c, .int .u32 st, .slice ia il ic, .int .i64 wr, .slice ra rl rc]] V fun e W' => e = .returned (.int .i64 R) ∧ Chg [] V W') := Lib.hid (fun V => by have := size_ring k w s c st ia il ic wr ra rl rc HO.out V; rwa [if_pos h4, HR.out] at this)
    have n1 : (k == 1) = false := by simpa using h1
    have n2 : (k == 2) = false := by simpa using h2
    have n3 : (k == 3) = false := by simpa using h3
    clear h4 h1 h2 h3
    go_enter Tryz.func120, Tryz.ntmps120
    go_wp2_with (go_at_call 144; refine (HS.out _).mono ?_; rintro e w1 ⟨rfl, hc⟩; have HC := Lib.hid (HCC.out.trans hc); clear hc)
    go_ret
    exact ⟨rfl, HC.out⟩
  by_cases h5 : k = 5
  · have b : (k == 5) = true := by simpa using h5
    have HS : Hid (∀ V, Calls Tryz.prog 145 #[.agg #[.int .i64 k, .int .i64 w, .int .i64 s, .int .i64 c, .int .u32 st, .slice ia il ic, .int .i64 wr, .slice ra rl rc]] V fun e W' => e = .returned (.int .i64 R) ∧ Chg [] V W') := Lib.hid (fun V => by have := size_cab k w s c st ia il ic wr ra rl rc HO.out V; rwa [if_pos h5, HR.out] at this)
    have n1 : (k == 1) = false := by simpa using h1
    have n2 : (k == 2) = false := by simpa using h2
    have n3 : (k == 3) = false := by simpa using h3
    have n4 : (k == 4) = false := by simpa using h4
    clear h5 h1 h2 h3 h4
    go_enter Tryz.func120, Tryz.ntmps120
    go_wp2_with (go_at_call 145; refine (HS.out _).mono ?_; rintro e w1 ⟨rfl, hc⟩; have HC := Lib.hid (HCC.out.trans hc); clear hc)
    go_ret
    exact ⟨rfl, HC.out⟩
  have HS : Hid (∀ V, Calls Tryz.prog 146 #[.agg #[.int .i64 k, .int .i64 w, .int .i64 s, .int .i64 c, .int .u32 st, .slice ia il ic, .int .i64 wr, .slice ra rl rc]] V fun e W' => e = .returned (.int .i64 R) ∧ Chg [] V W') := Lib.hid (fun V => by
    have := size_fifo k w s c st ia il ic wr ra rl rc HO.out V
    by_cases h6 : k = 6
    · rwa [if_pos h6, HR.out] at this
    · rw [if_neg h6] at this
      have h0 : rop.sizeI k w s c st il rl = 0 := by simp [rop.sizeI, rightB_out k w s c st il rl (by omega)]
      rwa [← HR.out, h0])
  have n1 : (k == 1) = false := by simpa using h1
  have n2 : (k == 2) = false := by simpa using h2
  have n3 : (k == 3) = false := by simpa using h3
  have n4 : (k == 4) = false := by simpa using h4
  have n5 : (k == 5) = false := by simpa using h5
  clear h1 h2 h3 h4 h5
  go_enter Tryz.func120, Tryz.ntmps120
  go_wp2_with (go_at_call 146; refine (HS.out _).mono ?_; rintro e w1 ⟨rfl, hc⟩; have HC := Lib.hid (HCC.out.trans hc); clear hc)
  go_ret
  exact ⟨rfl, HC.out⟩
end Go.Proofs.YtkedegbpkkgeaaaGreat.lay
/- Systems: lens. -/
namespace Go.Proofs.YtkedegbpkkgeaaaGreat.lay
open Go Go.RowKit Go.Proofs.YtkedegbpkkgeaaaGreat.kit Go.Proofs.YtkedegbpkkgeaaaGreat.obj Go.Proofs.YtkedegbpkkgeaaaGreat.mem
set_option linter.unusedVariables false
set_option linter.unusedSimpArgs false
set_option maxRecDepth 20000

def Tk.good (t : Tk) : Bool := decide (1 ≤ t.own ∧ t.own ≤ 64)
def lensOk (ts : List Tk) (os : List Ob) : Bool := ts.all Tk.good && os.all (fun o => o.size != 0)
def lensL (ts : List Tk) (os : List Ob) : List Int := ts.map Tk.own ++ os.map Ob.size
theorem ownGe {w : World} {B e size n : Nat} {v : Value} {xs : List Value} (h : w.ownsRow B e size v n xs) : ∀ y, v.ownBlock = some y → B ≤ y := by
  intro y hy
  rcases h.2 with ⟨rfl, _⟩ | ⟨g, _, _, rfl, hg, _⟩
  · cases hy
  · simp [Value.ownBlock] at hy; omega
theorem OwnI.add {w : World} {B : Nat} {v : Value} {zs : List Int} {x : Int} (h : w.ownsRow B 3 1 v (zs.length + 1) (zs.map (Value.int .i64) ++ [.int .i64 x])) : OwnI w B v (zs ++ [x]) := by
  unfold OwnI
  rw [List.length_append, List.map_append]
  exact h

set_option maxHeartbeats 4000000 in
theorem lens_any (ta : Option Addr) (tl tc : Nat) (oa : Option Addr) (ol oc : Nat) (ts : List Tk) (os : List Ob) (W : World) (hT : ReadsT W (.slice ta tl tc) ts) (hO : ReadsO W (.slice oa ol oc) os) (hw : ∀ o ∈ os, o.W) (hl : ts.length ≤ 1000 ∧ os.length ≤ 1000) :
    Calls Tryz.prog 93 #[.agg #[.slice ta tl tc, .slice oa ol oc]] W fun e W' => ∃ v, e = .returned (.tuple #[v, .bool (lensOk ts os)]) ∧ OwnI W' W.heap.size v (if lensOk ts os then lensL ts os else []) ∧ Chg [] W W' := by
  obtain ⟨i0, hi, hz0, hz1, hz2⟩ := info_parts infoInt
  have HI0 : Hid (Tryz.prog.info? 3 = some i0 ∧ i0.zero = some (.int .i64 0) ∧ i0.size = 1 ∧ i0.bytes = 8) := Lib.hid ⟨hi, hz0, hz1, hz2⟩
  obtain ⟨b1, o1, hx1, hc1, -⟩ := reads_index (P := Tryz.prog) Tryz.underlying22 szTask hT.1
  obtain ⟨b2, o2, hx2, hc2, -⟩ := reads_index (P := Tryz.prog) Tryz.underlying23 szObj hO
  have htl : tl = ts.length := by obtain ⟨_, _, he, _⟩ := reads_slice hT.1; simp at he; exact he.2.1
  have hol : ol = os.length := by obtain ⟨_, _, he, _⟩ := reads_slice hO; simp at he; exact he.2.1
  subst htl hol
  have HX1 := Lib.hid hx1
  have HC1 := Lib.hid hc1
  have HX2 := Lib.hid hx2
  have HC2 := Lib.hid hc2
  have HTW := Lib.hid hT.2
  have HW := Lib.hid hw
  have HLN := Lib.hid hl
  have HCA : Hid (Chg [] W (W.alloc (.cells #[.slice ta ts.length tc, .slice oa os.length oc] 25))) := Lib.hid ((Chg.refl _ _).alloc _)
  have HBX : Hid (Blk (W.alloc (.cells #[.slice ta ts.length tc, .slice oa os.length oc] 25)) W.heap.size #[.slice ta ts.length tc, .slice oa os.length oc] 25) := Lib.hid (Blk.new W _ _)
  obtain ⟨R, hR⟩ : ∃ R, lensOk ts os = R := ⟨_, rfl⟩
  have HR := Lib.hid hR
  rw [hR]
  clear hi hz0 hz1 hz2 hx1 hc1 hx2 hc2 hT hO hw hl hR
  go_enter Tryz.func93, Tryz.ntmps93
  go_wp2_with fail
  go_loopw [4, 6, 13] (fun o4 _ i wr => ∃ (j : Nat) (ov : Value), j ≤ ts.length ∧ i = .int .i64 j ∧ ov = o4 ∧ Hid ((ts.take j).all Tk.good = true) ∧ Hid (OwnI wr (W.alloc (.cells #[.slice ta ts.length tc, .slice oa os.length oc] 25)).heap.size ov ((ts.take j).map Tk.own)) ∧ Hid (Chg [] (W.alloc (.cells #[.slice ta ts.length tc, .slice oa os.length oc] 25)) wr)) (fun _ _ i _ => ts.length - (intOf i).toNat)
  case atStart => exact ⟨0, _, Nat.zero_le _, rfl, rfl, Lib.hid rfl, Lib.hid (World.ownsRow_nil _ _ _ _), Lib.hid (Chg.refl _ _)⟩
  case round =>
    obtain ⟨j, ov, hj, rfl, rfl, HG, HOV, HJ⟩ := hrel
    have HSZ : Hid ((W.alloc (.cells #[.slice ta ts.length tc, .slice oa os.length oc] 25)).heap.size ≤ wr.heap.size) := Lib.hid HJ.out.size
    by_cases hlt : j < ts.length
    · have HLT := Lib.hid hlt
      have g1 := HX1.out j hlt
      obtain ⟨⟨kind, prio, period, offset, deadline, own, ca, cl, cc⟩, htk⟩ : ∃ t, ts[j]? = some t := ⟨_, List.getElem?_eq_getElem hlt⟩
      have hcw : Chg [] W wr := HCA.out.trans HJ.out
      have q0 := hcw.keep (HC1.out (j * 7 + 0) _ (by rw [flatMap_get Tk.cells 7 (fun _ => rfl) ts j 0 (by decide) _ htk]; rfl)) (by simp)
      have q1 := hcw.keep (HC1.out (j * 7 + 1) _ (by rw [flatMap_get Tk.cells 7 (fun _ => rfl) ts j 1 (by decide) _ htk]; rfl)) (by simp)
      have q2 := hcw.keep (HC1.out (j * 7 + 2) _ (by rw [flatMap_get Tk.cells 7 (fun _ => rfl) ts j 2 (by decide) _ htk]; rfl)) (by simp)
      have q3 := hcw.keep (HC1.out (j * 7 + 3) _ (by rw [flatMap_get Tk.cells 7 (fun _ => rfl) ts j 3 (by decide) _ htk]; rfl)) (by simp)
      have q4 := hcw.keep (HC1.out (j * 7 + 4) _ (by rw [flatMap_get Tk.cells 7 (fun _ => rfl) ts j 4 (by decide) _ htk]; rfl)) (by simp)
      have q5 := hcw.keep (HC1.out (j * 7 + 5) _ (by rw [flatMap_get Tk.cells 7 (fun _ => rfl) ts j 5 (by decide) _ htk]; rfl)) (by simp)
      have q6 := hcw.keep (HC1.out (j * 7 + 6) _ (by rw [flatMap_get Tk.cells 7 (fun _ => rfl) ts j 6 (by decide) _ htk]; rfl)) (by simp)
      rw [Nat.add_zero] at q0
      rw [← Nat.add_assoc] at q1 q2 q3 q4 q5 q6
      have HK := Lib.hid htk
      have hj1000 : (j : Int) < 1000 := by have := HLN.out; omega
      have k8 : IntKind.i64.wrap ((j : Int) + 1) = (j : Int) + 1 := by rw [IntKind.wrap_i64]; omega
      clear hcw htk hj hlt
      by_cases c1 : own < 1
      · have hbad : R = false := by rw [← HR.out]; unfold lensOk; rw [all_not HK.out (show Tk.good _ = false by simp [Tk.good]; omega)]; rfl
        subst hbad
        go_wp2_with fail
        go_ret2
        exact ⟨_, rfl, World.ownsRow_nil _ _ _ _, (HCA.out.trans HJ.out).alloc _⟩
      · by_cases c2 : own > 64
        · have hbad : R = false := by rw [← HR.out]; unfold lensOk; rw [all_not HK.out (show Tk.good _ = false by simp [Tk.good]; omega)]; rfl
          subst hbad
          go_wp2_with fail
          go_ret2
          exact ⟨_, rfl, World.ownsRow_nil _ _ _ _, (HCA.out.trans HJ.out).alloc _⟩
        · have HLX : Hid (((ts.take j).map Tk.own).length ≤ 1000) := Lib.hid (by have := HLN.out; simp; omega)
          obtain ⟨zj, hzj⟩ : ∃ zj, (ts.take j).map Tk.own = zj := ⟨_, rfl⟩
          have HZJ := Lib.hid hzj
          rw [hzj] at HOV HLX
          clear hzj
          obtain ⟨xa, xc, hxa, -⟩ := reads_slice (Reads.of_own HOV.out (by decide))
          subst hxa
          have HGD : Hid (1 ≤ own ∧ own ≤ 64) := Lib.hid (by omega)
          go_wp2_with ((with_reducible show wpList _ _ _ (⟨some 29, _, _, _, _, _⟩ :: _) _ _); refine wpList_append_any (o := ⟨some 29, _, _, _, _, _⟩) _ rfl (.tmp 25) (.tmp 28) 33 rfl (W.alloc (.cells #[.slice ta ts.length tc, .slice oa os.length oc] 25)).heap.size 3 i0 (.int .i64 0) 1 8 Tryz.underlying33 HI0.out.1 HI0.out.2.1 HI0.out.2.2.1 HI0.out.2.2.2 rfl (by decide) (.slice xa zj.length xc) _ _ rfl (mem.own_chg (mem.own_chg HOV.out ((Chg.refl [] _).alloc _) (by simp)) ((Chg.refl [] _).alloc _) (by simp)) _ 1 _ rfl (by have h := reads_one (wr.alloc (.cells #[.int .i64 kind, .int .i64 prio, .int .i64 period, .int .i64 offset, .int .i64 deadline, .int .i64 own, .slice ca cl cc] 31)) (.int .i64 own) 3; rw [show (wr.alloc (.cells #[.int .i64 kind, .int .i64 prio, .int .i64 period, .int .i64 offset, .int .i64 deadline, .int .i64 own, .slice ca cl cc] 31)).heap.size = wr.heap.size + 1 from by simp] at h; exact h) (by intro u hu; simp at hu; subst hu; rfl) (by have := HLX.out; unfold maxLen; omega) (by have := HLX.out; omega) (Nat.le_trans HSZ.out (((Chg.refl [] _).alloc _).alloc _).size) ?_; intro v2 w2 hown2 hg2; have HO2 := Lib.hid (OwnI.add hown2); have HC3 : Hid (Chg [] (W.alloc (.cells #[.slice ta ts.length tc, .slice oa os.length oc] 25)) w2) := Lib.hid (((HJ.out.alloc _).alloc _).grown hg2 (fun y hy => .inr (ownGe HOV.out y hy))); clear hown2 hg2)
          have hltj := HLT.out
          go_roundw
          case rel => exact ⟨j + 1, v2, by omega, by go_num, rfl, Lib.hid (take_all HG.out HK.out (by simp [Tk.good]; exact HGD.out)), Lib.hid (by rw [take_map Tk.own HK.out, HZJ.out]; exact HO2.out), HC3⟩
          case measure => simp [intOf]; omega
    · obtain rfl : ts.length = j := by omega
      clear hlt hj
      have HG1 : Hid (ts.all Tk.good = true) := Lib.hid (by have := HG.out; rwa [List.take_length] at this)
      have HO1 : Hid (OwnI wr (W.alloc (.cells #[.slice ta ts.length tc, .slice oa os.length oc] 25)).heap.size ov (ts.map Tk.own)) := Lib.hid (by have := HOV.out; rwa [List.take_length] at this)
      have e1 : wr.cell? ⟨W.heap.size, 1, none⟩ = some (.slice oa os.length oc) := (HBX.out.keep HJ.out (by simp)).cell rfl
      obtain ⟨wo, rfl⟩ : ∃ wo : World, wo = wr := ⟨_, rfl⟩
      clear HG HOV
      go_wp2_with fail
      go_loopw [4, 8, 9, 34] (fun o4 _ _ i wr => ∃ (j : Nat) (ov : Value), j ≤ os.length ∧ i = .int .i64 j ∧ ov = o4 ∧ Hid ((os.take j).all (fun o => o.size != 0) = true) ∧ Hid (OwnI wr (W.alloc (.cells #[.slice ta ts.length tc, .slice oa os.length oc] 25)).heap.size ov (ts.map Tk.own ++ (os.take j).map Ob.size)) ∧ Hid (Chg [] (W.alloc (.cells #[.slice ta ts.length tc, .slice oa os.length oc] 25)) wr)) (fun _ _ _ i _ => os.length - (intOf i).toNat)
      case atStart => exact ⟨0, _, Nat.zero_le _, rfl, rfl, Lib.hid rfl, Lib.hid (by rw [List.take_zero, List.map_nil, List.append_nil]; exact HO1.out), HJ⟩
      case round =>
        clear HO1 HJ e1
        obtain ⟨j, ov2, hj, rfl, rfl, HG, HOV, HJ⟩ := hrel
        have HSZ : Hid ((W.alloc (.cells #[.slice ta ts.length tc, .slice oa os.length oc] 25)).heap.size ≤ wr.heap.size) := Lib.hid HJ.out.size
        by_cases hlt : j < os.length
        · have HLT := Lib.hid hlt
          have g1 := HX2.out j hlt
          obtain ⟨⟨k, w, s, c, st, ia, il, ic, wr2, ra, rl, rc⟩, htk⟩ : ∃ t, os[j]? = some t := ⟨_, List.getElem?_eq_getElem hlt⟩
          have hcw : Chg [] W wr := HCA.out.trans HJ.out
          have q0 := hcw.keep (HC2.out (j * 8 + 0) _ (by rw [flatMap_get Ob.cells 8 (fun _ => rfl) os j 0 (by decide) _ htk]; rfl)) (by simp)
          have q1 := hcw.keep (HC2.out (j * 8 + 1) _ (by rw [flatMap_get Ob.cells 8 (fun _ => rfl) os j 1 (by decide) _ htk]; rfl)) (by simp)
          have q2 := hcw.keep (HC2.out (j * 8 + 2) _ (by rw [flatMap_get Ob.cells 8 (fun _ => rfl) os j 2 (by decide) _ htk]; rfl)) (by simp)
          have q3 := hcw.keep (HC2.out (j * 8 + 3) _ (by rw [flatMap_get Ob.cells 8 (fun _ => rfl) os j 3 (by decide) _ htk]; rfl)) (by simp)
          have q4 := hcw.keep (HC2.out (j * 8 + 4) _ (by rw [flatMap_get Ob.cells 8 (fun _ => rfl) os j 4 (by decide) _ htk]; rfl)) (by simp)
          have q5 := hcw.keep (HC2.out (j * 8 + 5) _ (by rw [flatMap_get Ob.cells 8 (fun _ => rfl) os j 5 (by decide) _ htk]; rfl)) (by simp)
          have q6 := hcw.keep (HC2.out (j * 8 + 6) _ (by rw [flatMap_get Ob.cells 8 (fun _ => rfl) os j 6 (by decide) _ htk]; rfl)) (by simp)
          have q7 := hcw.keep (HC2.out (j * 8 + 7) _ (by rw [flatMap_get Ob.cells 8 (fun _ => rfl) os j 7 (by decide) _ htk]; rfl)) (by simp)
          rw [Nat.add_zero] at q0
          rw [← Nat.add_assoc] at q1 q2 q3 q4 q5 q6 q7
          have HK := Lib.hid htk
          have HOW := Lib.hid (HW.out _ (List.mem_of_getElem? htk))
          have hj1000 : (j : Int) < 1000 := by have := HLN.out; omega
          have k8 : IntKind.i64.wrap ((j : Int) + 1) = (j : Int) + 1 := by rw [IntKind.wrap_i64]; omega
          have HS := Lib.hid (fun V => oSize_any k w s c st ia il ic wr2 ra rl rc HOW.out V)
          obtain ⟨sz, hsz⟩ : ∃ sz, rop.sizeI k w s c st il rl = sz := ⟨_, rfl⟩
          rw [hsz] at HS
          have HSI := Lib.hid hsz
          clear hcw htk hj hlt hsz
          by_cases c1 : sz = 0
          · have hbad : R = false := by rw [← HR.out]; unfold lensOk; rw [all_not (p := fun o => o.size != 0) HK.out (by show (rop.sizeI k w s c st il rl != 0) = false; rw [HSI.out, c1]; rfl)]; simp
            subst hbad
            subst c1
            go_wp2_with (go_at_call 120; refine (HS.out _).mono ?_; rintro e w5 ⟨rfl, hc⟩; have HJ5 := Lib.hid ((HJ.out.alloc _).trans hc); clear hc)
            go_ret2
            exact ⟨_, rfl, World.ownsRow_nil _ _ _ _, HCA.out.trans HJ5.out⟩
          · have HLX : Hid ((ts.map Tk.own ++ (os.take j).map Ob.size).length ≤ 2000) := Lib.hid (by have := HLN.out; simp; omega)
            obtain ⟨zj, hzj⟩ : ∃ zj, ts.map Tk.own ++ (os.take j).map Ob.size = zj := ⟨_, rfl⟩
            have HZJ := Lib.hid hzj
            rw [hzj] at HOV HLX
            clear hzj
            obtain ⟨xa, xc, hxa, -⟩ := reads_slice (Reads.of_own HOV.out (by decide))
            subst hxa
            have c2 : (sz == 0) = false := by simpa using c1
            go_wp2_with (first | (go_at_call 120; refine (HS.out _).mono ?_; rintro e w5 ⟨rfl, hc⟩; have HJ5 := Lib.hid ((HJ.out.alloc _).trans hc); have HOV5 := Lib.hid (mem.own_chg HOV.out (((Chg.refl [] _).alloc _).trans hc) (by simp)); have HSZ5 : Hid ((W.alloc (.cells #[.slice ta ts.length tc, .slice oa os.length oc] 25)).heap.size ≤ w5.heap.size) := Lib.hid HJ5.out.size; clear hc) | ((with_reducible show wpList _ _ _ (⟨some 45, _, _, _, _, _⟩ :: _) _ _); refine wpList_append_any (o := ⟨some 45, _, _, _, _, _⟩) _ rfl (.tmp 42) (.tmp 44) 33 rfl (W.alloc (.cells #[.slice ta ts.length tc, .slice oa os.length oc] 25)).heap.size 3 i0 (.int .i64 0) 1 8 Tryz.underlying33 HI0.out.1 HI0.out.2.1 HI0.out.2.2.1 HI0.out.2.2.2 rfl (by decide) (.slice xa zj.length xc) _ _ rfl (mem.own_chg (HOV5.out) ((Chg.refl [] _).alloc _) (by simp)) _ 1 _ rfl (reads_one w5 (.int .i64 sz) 3) (by intro u hu; simp at hu; subst hu; rfl) (by have := HLX.out; unfold maxLen; omega) (by have := HLX.out; omega) (Nat.le_trans HSZ5.out ((Chg.refl [] _).alloc _).size) ?_; intro v2 w2 hown2 hg2; have HO2 := Lib.hid (OwnI.add hown2); have HC3 : Hid (Chg [] (W.alloc (.cells #[.slice ta ts.length tc, .slice oa os.length oc] 25)) w2) := Lib.hid ((HJ5.out.alloc _).grown hg2 (fun y hy => .inr (ownGe HOV5.out y hy))); clear hown2 hg2))
            have hltj := HLT.out
            go_roundw
            case rel => exact ⟨j + 1, v2, by omega, by go_num, rfl, Lib.hid (take_all (p := fun o => o.size != 0) HG.out HK.out (by show (rop.sizeI k w s c st il rl != 0) = true; rw [HSI.out]; simpa using c1)), Lib.hid (by rw [take_map Ob.size HK.out, ← List.append_assoc, HZJ.out]; show OwnI _ _ _ (_ ++ [rop.sizeI k w s c st il rl]); rw [HSI.out]; exact HO2.out), HC3⟩
            case measure => simp [intOf]; omega
        · obtain rfl : os.length = j := by omega
          clear hlt hj
          have hgood : R = true := by rw [← HR.out]; unfold lensOk; rw [HG1.out]; have := HG.out; rw [List.take_length] at this; rw [this]; rfl
          subst hgood
          go_wp2_with fail
          go_ret2
          exact ⟨_, rfl, by have := HOV.out; rw [List.take_length] at this; exact mem.own_base this HCA.out.size, HCA.out.trans HJ.out⟩
end Go.Proofs.YtkedegbpkkgeaaaGreat.lay
/- Systems: mem.Cut, slices.Clone of regions. -/
namespace Go.Proofs.YtkedegbpkkgeaaaGreat.lay
open Go Go.RowKit Go.Proofs.YtkedegbpkkgeaaaGreat.kit Go.Proofs.YtkedegbpkkgeaaaGreat.obj Go.Proofs.YtkedegbpkkgeaaaGreat.mem
set_option linter.unusedVariables false
set_option linter.unusedSimpArgs false
set_option maxRecDepth 200000

def sumI : List Int → Int
  | [] => 0
  | n :: r => n + sumI r
theorem sumI_append (a b : List Int) : sumI (a ++ b) = sumI a + sumI b := by
  induction a with
  | nil => simp [sumI]
  | cons n r ih => simp [sumI, ih]; omega
def nonneg (zs : List Int) : Prop := ∀ z ∈ zs, 0 ≤ z ∧ z ≤ 1000000
theorem sumI_nn {zs : List Int} (h : nonneg zs) : 0 ≤ sumI zs := by
  induction zs with
  | nil => simp [sumI]
  | cons n r ih =>
    have h1 := h n (List.mem_cons_self ..)
    have h2 := ih (fun z hz => h z (List.mem_cons_of_mem _ hz))
    simp [sumI]; omega
theorem sumI_take {zs : List Int} {j : Nat} {x : Int} (h : zs[j]? = some x) : sumI (zs.take (j + 1)) = sumI (zs.take j) + x := by
  have hj := List.getElem?_eq_some_iff.1 h
  rw [List.take_succ_eq_append_getElem hj.1, sumI_append, hj.2]
  simp [sumI]
theorem sumI_le {zs : List Int} (h : nonneg zs) (j : Nat) : sumI (zs.take j) ≤ sumI zs := by
  have h1 : sumI zs = sumI (zs.take j) + sumI (zs.drop j) := by rw [← sumI_append, List.take_append_drop]
  have h2 : 0 ≤ sumI (zs.drop j) := sumI_nn (fun z hz => h z (List.mem_of_mem_drop hz))
  omega
/-- regions of some lengths, one behind the other -/
def cutL : Int → List Int → List (Int × Int)
  | _, [] => []
  | at_, n :: r => (at_, n) :: cutL (at_ + n) r
theorem cutL_append (at_ : Int) (a b : List Int) : cutL at_ (a ++ b) = cutL at_ a ++ cutL (at_ + sumI a) b := by
  induction a generalizing at_ with
  | nil => simp [cutL, sumI]
  | cons n r ih => simp only [List.cons_append, cutL, sumI, ih]; rw [show at_ + n + sumI r = at_ + (n + sumI r) by omega]
theorem cutL_length (at_ : Int) (a : List Int) : (cutL at_ a).length = a.length := by
  induction a generalizing at_ with
  | nil => rfl
  | cons n r ih => simp [cutL, ih]
theorem cutL_take {zs : List Int} {j : Nat} {x : Int} (h : zs[j]? = some x) : cutL 0 (zs.take (j + 1)) = cutL 0 (zs.take j) ++ [(sumI (zs.take j), x)] := by
  have hj := List.getElem?_eq_some_iff.1 h
  rw [List.take_succ_eq_append_getElem hj.1, cutL_append, hj.2]
  simp [cutL]
def ReadsI (w : World) (v : Value) (zs : List Int) : Prop := Reads w 1 v zs.length (zs.map (Value.int .i64))
theorem ReadsI.chg {w w' : World} {v : Value} {zs : List Int} (h : ReadsI w v zs) (k : Chg [] w w') : ReadsI w' v zs := Reads.fresh h k
theorem OwnI.reads {w : World} {B : Nat} {v : Value} {zs : List Int} (h : OwnI w B v zs) : ReadsI w v zs := Reads.of_own h (by decide)
theorem neg_any (n : Int) (W : World) (hn : 0 ≤ n) : Calls Tryz.prog 122 #[.int .i64 n] W fun e W' => e = .returned (.bool false) ∧ W = W' := by
  have hb : decide (n < 0) = false := by simp; omega
  have hn2 : ¬ n < 0 := by omega
  go_enter Tryz.func122, Tryz.ntmps122
  go_wp2_with fail
  go_ret
  exact ⟨ret_bool (by first | rfl | (simp; done) | (simp; omega)), rfl⟩
set_option maxHeartbeats 2000000 in
theorem IndexI_any (v : Value) (zs : List Int) (W : World) (hr : ReadsI W v zs) (hl : zs.length ≤ 10000) (hz : nonneg zs) :
    Calls Tryz.prog 147 #[v, .func (.func 122) #[] #[]] W fun e W' => e = .returned (.int .i64 (-1)) ∧ Chg [] W W' := by
  obtain ⟨bb, off, hix, hcell, hown⟩ := reads_index (P := Tryz.prog) Tryz.underlying33 szInt hr
  obtain ⟨va, vc, rfl, _⟩ := reads_slice hr
  have HX := Lib.hid hix
  have HC := Lib.hid hcell
  have HZ := Lib.hid hz
  have HL := Lib.hid hl
  clear hix hcell hown hr hz hl
  go_enter Tryz.func147, Tryz.ntmps147
  go_wp2_with fail
  go_loopw [5, 8] (fun _ i wr => ∃ j : Nat, j ≤ zs.length ∧ i = .int .i64 j ∧ Hid (Chg [] W wr)) (fun _ i _ => zs.length - (intOf i).toNat)
  case atStart => exact ⟨0, Nat.zero_le _, rfl, Lib.hid (Chg.refl _ _)⟩
  case round =>
    obtain ⟨j, hj, rfl, HJ⟩ := hrel
    by_cases hlt : j < zs.length
    · have HLT := Lib.hid hlt
      have g1 := HX.out j hlt
      obtain ⟨x, hxk⟩ : ∃ x, zs[j]? = some x := ⟨_, List.getElem?_eq_getElem hlt⟩
      have q0 := HJ.out.keep (HC.out j (.int .i64 x) (by rw [List.getElem?_map, hxk]; rfl)) (by simp)
      have HXX : Hid (0 ≤ x) := Lib.hid (HZ.out _ (List.mem_of_getElem? hxk)).1
      rw [Nat.mul_one] at g1
      have hj1000 : (j : Int) < 10000 := by have := HL.out; omega
      have k8 : IntKind.i64.wrap ((j : Int) + 1) = (j : Int) + 1 := by rw [IntKind.wrap_i64]; omega
      clear hxk hj hlt
      go_wp2_with (go_at_call 122; refine (neg_any x _ HXX.out).mono ?_; rintro e w1 ⟨rfl, rfl⟩)
      have hltj := HLT.out
      go_roundw
      case rel => exact ⟨j + 1, by omega, by go_num, HJ⟩
      case measure => simp [intOf]; omega
    · obtain rfl : zs.length = j := by omega
      clear hlt hj
      go_wp2_with fail
      go_ret
      exact ⟨rfl, HJ.out⟩
theorem HasNeg_any (v : Value) (zs : List Int) (W : World) (hr : ReadsI W v zs) (hl : zs.length ≤ 10000) (hz : nonneg zs) :
    Calls Tryz.prog 121 #[v, .func (.func 122) #[] #[]] W fun e W' => e = .returned (.bool false) ∧ Chg [] W W' := by
  have HI := Lib.hid (IndexI_any v zs W hr hl hz)
  clear hr hl hz
  go_enter Tryz.func121, Tryz.ntmps121
  go_wp2_with (go_at_call 147; refine HI.out.mono ?_; rintro e w1 ⟨rfl, hc⟩; have HC := Lib.hid hc; clear hc)
  go_ret
  exact ⟨rfl, HC.out⟩
theorem reads_reg (w : World) (a b : Int) : Reads (w.alloc (.cells #[.int .i64 a, .int .i64 b] 93)) 2 (.slice (some ⟨w.heap.size, 0, none⟩) 1 1) 1 (rcells (a, b)) :=
  ⟨rfl, by decide, .inr ⟨by decide, w.heap.size, 0, 1, rfl, Nat.le_refl _, by decide, fun i u hu => by rw [Nat.zero_add]; exact (Blk.new w _ _).cell (by simpa [rcells] using hu)⟩⟩
theorem rcells_one (rs : List (Int × Int)) : ∀ u ∈ rs.flatMap rcells, u.oneCell' = true := by
  intro u hu
  obtain ⟨r, _, h⟩ := List.mem_flatMap.1 hu
  simp [rcells] at h
  rcases h with rfl | rfl <;> rfl
theorem OwnR.add {w : World} {B : Nat} {v : Value} {rs : List (Int × Int)} {r : Int × Int} (h : w.ownsRow B 93 2 v (rs.length + 1) (rs.flatMap rcells ++ rcells r)) : OwnR w B v (rs ++ [r]) := by
  unfold OwnR
  rw [List.length_append, List.flatMap_append]
  simpa using h

set_option maxHeartbeats 4000000 in
theorem Cut_any (v : Value) (zs : List Int) (W : World) (hr : ReadsI W v zs) (hl : zs.length ≤ 10000) (hz : nonneg zs) :
    Calls Tryz.prog 94 #[.int .i64 4096, v] W fun e W' => ∃ v', e = .returned (.tuple #[v', .int .i64 (if sumI zs ≤ 4096 then 0 else 6)]) ∧ OwnR W' W.heap.size v' (if sumI zs ≤ 4096 then cutL 0 zs else []) ∧ Chg [] W W' := by
  obtain ⟨i0, hi, hz0, hz1, hz2⟩ := info_parts infoReg
  have HI0 : Hid (Tryz.prog.info? 93 = some i0 ∧ i0.zero = some (.agg #[.int .i64 0, .int .i64 0]) ∧ i0.size = 2 ∧ i0.bytes = 16) := Lib.hid ⟨hi, hz0, hz1, hz2⟩
  obtain ⟨cd, hcd⟩ : ∃ cd : Int, (if sumI zs ≤ 4096 then 0 else 6) = cd := ⟨_, rfl⟩
  obtain ⟨rr, hrr⟩ : ∃ rr, (if sumI zs ≤ 4096 then cutL 0 zs else []) = rr := ⟨_, rfl⟩
  rw [hcd, hrr]
  have HCD := Lib.hid hcd
  have HRR := Lib.hid hrr
  clear hcd hrr
  have HH := Lib.hid (HasNeg_any v zs W hr hl hz)
  obtain ⟨bb, off, hix, hcell, hown⟩ := reads_index (P := Tryz.prog) Tryz.underlying33 szInt hr
  obtain ⟨va, vc, rfl, _⟩ := reads_slice hr
  have HX := Lib.hid hix
  have HC := Lib.hid hcell
  have HZ := Lib.hid hz
  have HL := Lib.hid hl
  clear hi hz0 hz1 hz2 hix hcell hown hr hz hl
  go_enter Tryz.func94, Tryz.ntmps94
  go_wp2_with (go_at_call 121; refine HH.out.mono ?_; rintro e w1 ⟨rfl, hc⟩; have HW1 := Lib.hid hc; clear hc)
  go_loopw [6, 7, 9, 14] (fun o6 at0 _ i wr => ∃ (j : Nat) (at_ : Int) (ov : Value), j ≤ zs.length ∧ i = .int .i64 j ∧ at0 = .int .i64 at_ ∧ ov = o6 ∧ Hid (at_ = sumI (zs.take j) ∧ at_ ≤ 4096) ∧ Hid (OwnR wr W.heap.size ov (cutL 0 (zs.take j))) ∧ Hid (Chg [] W wr)) (fun _ _ _ i _ => zs.length - (intOf i).toNat)
  case atStart => exact ⟨0, 0, _, Nat.zero_le _, rfl, rfl, rfl, Lib.hid ⟨rfl, by omega⟩, Lib.hid (World.ownsRow_nil _ _ _ _), HW1⟩
  case round =>
    obtain ⟨j, at_, ov, hj, rfl, rfl, rfl, HS, HOV, HJ⟩ := hrel
    have HSZ : Hid (W.heap.size ≤ wr.heap.size) := Lib.hid HJ.out.size
    have HJL := Lib.hid hj
    have HA0 : Hid (0 ≤ at_) := Lib.hid (by rw [HS.out.1]; exact sumI_nn (fun z hz => HZ.out z (List.mem_of_mem_take hz)))
    by_cases hlt : j < zs.length
    · have HLT := Lib.hid hlt
      have g1 := HX.out j hlt
      obtain ⟨x, hxk⟩ : ∃ x, zs[j]? = some x := ⟨_, List.getElem?_eq_getElem hlt⟩
      have q0 := HJ.out.keep (HC.out j (.int .i64 x) (by rw [List.getElem?_map, hxk]; rfl)) (by simp)
      have HXX := Lib.hid (HZ.out _ (List.mem_of_getElem? hxk))
      have HXK := Lib.hid hxk
      rw [Nat.mul_one] at g1
      have hj1000 : (j : Int) < 10000 := by have := HL.out; omega
      have k8 : IntKind.i64.wrap ((j : Int) + 1) = (j : Int) + 1 := by rw [IntKind.wrap_i64]; omega
      have k7 : IntKind.i64.wrap (4096 - at_) = 4096 - at_ := by have := HS.out; have := HA0.out; rw [IntKind.wrap_i64]; omega
      have k6 : IntKind.i64.wrap (at_ + x) = at_ + x := by have := HS.out; have := HA0.out; have := HXX.out; rw [IntKind.wrap_i64]; omega
      have HTK := Lib.hid (sumI_take hxk)
      clear hxk hj hlt
      by_cases hbig : x > 4096 - at_
      · have hno : ¬ sumI zs ≤ 4096 := by
          have h1 := sumI_le HZ.out (j + 1)
          rw [HTK.out, ← HS.out.1] at h1
          omega
        obtain rfl : 6 = cd := by have := HCD.out; rwa [if_neg hno] at this
        obtain rfl : [] = rr := by have := HRR.out; rwa [if_neg hno] at this
        clear hno
        go_wp2_with fail
        go_ret2
        exact ⟨_, rfl, World.ownsRow_nil _ _ _ _, HJ.out⟩
      · have HBG : Hid (at_ + x ≤ 4096) := Lib.hid (by omega)
        have HLX : Hid ((cutL 0 (zs.take j)).length ≤ 10000) := Lib.hid (by have := HL.out; rw [cutL_length, List.length_take]; omega)
        obtain ⟨rj, hrj⟩ : ∃ rj, cutL 0 (zs.take j) = rj := ⟨_, rfl⟩
        have HRJ := Lib.hid hrj
        rw [hrj] at HOV HLX
        clear hrj
        obtain ⟨xa, xc, hxa, -⟩ := reads_slice (Reads.of_own HOV.out (by decide))
        subst hxa
        have hbig2 : ¬ 4096 - at_ < x := by omega
        go_wp2_with ((with_reducible show wpList _ _ _ (⟨some 28, _, _, _, _, _⟩ :: _) _ _); refine wpList_append_any (o := ⟨some 28, _, _, _, _, _⟩) _ rfl (.tmp 23) (.tmp 27) 69 rfl W.heap.size 93 i0 (.agg #[.int .i64 0, .int .i64 0]) 2 16 Tryz.underlying69 HI0.out.1 HI0.out.2.1 HI0.out.2.2.1 HI0.out.2.2.2 rfl (by decide) (.slice xa rj.length xc) _ _ rfl (mem.own_chg HOV.out ((Chg.refl [] _).alloc _) (by simp)) _ 1 _ rfl (reads_reg wr at_ x) (by intro u hu; simp [rcells] at hu; rcases hu with rfl | rfl <;> rfl) (by have := HLX.out; unfold maxLen; omega) (by have := HLX.out; omega) (Nat.le_trans HSZ.out ((Chg.refl [] _).alloc _).size) ?_; intro v2 w2 hown2 hg2; have HO2 := Lib.hid (OwnR.add hown2); have HC3 : Hid (Chg [] W w2) := Lib.hid ((HJ.out.alloc _).grown hg2 (fun y hy => .inr (ownGe HOV.out y hy))); clear hown2 hg2)
        have hltj := HLT.out
        go_roundw
        case rel => exact ⟨j + 1, at_ + x, v2, by omega, by go_num, rfl, rfl, Lib.hid ⟨by rw [HTK.out, HS.out.1], HBG.out⟩, Lib.hid (by rw [cutL_take HXK.out, ← HS.out.1, HRJ.out]; exact HO2.out), HC3⟩
        case measure => simp [intOf]; omega
    · obtain rfl : zs.length = j := by omega
      clear hlt hj
      have hyes : sumI zs ≤ 4096 := by have := HS.out; rw [List.take_length] at this; omega
      obtain rfl : 0 = cd := by have := HCD.out; rwa [if_pos hyes] at this
      obtain rfl : cutL 0 zs = rr := by have := HRR.out; rwa [if_pos hyes] at this
      clear hyes
      go_wp2_with fail
      go_ret2
      exact ⟨_, rfl, by have := HOV.out; rwa [List.take_length] at this, HJ.out⟩
theorem clone_regs (v : Value) (rs : List (Int × Int)) (w : World) (hr : Reads w 2 v rs.length (rs.flatMap rcells)) (hz : rs.length ≤ 10000) :
    Calls Tryz.prog 95 #[v] w fun e w' => ∃ v', e = .returned v' ∧ OwnR w' w.heap.size v' rs ∧ Chg [] w w' := by
  obtain ⟨a, c, rfl, _⟩ := reads_slice hr
  obtain ⟨i0, hi, hz0, hz1, hz2⟩ := info_parts infoReg
  cases a with
  | none =>
    have hnil := fun w => Lib.run_eql_slice_nil (P := Tryz.prog) w 69 93 none 0 0 0 0 Tryz.underlying69
    have h0 : rs = [] ∧ c = 0 := by
      obtain ⟨_, _, ⟨h0, a, c', he, ha, _⟩ | ⟨_, b, off, c', he, _⟩⟩ := hr
      · simp only [Value.slice.injEq] at he
        exact ⟨List.eq_nil_of_length_eq_zero h0, by rw [he.2.2]; exact ha he.1.symm⟩
      · simp at he
    obtain ⟨rfl, rfl⟩ := h0
    simp only [List.length_nil]
    clear hz hr hi hz0 hz1 hz2
    go_enter Tryz.func95, Tryz.ntmps95
    go_wp2
    go_ret
    exact ⟨_, rfl, World.ownsRow_nil _ _ _ _, Chg.refl _ _⟩
  | some x =>
    have hnil := fun w => Lib.run_eql_slice_nil (P := Tryz.prog) w 69 93 (some x) rs.length c 0 0 Tryz.underlying69
    go_enter Tryz.func95, Tryz.ntmps95
    go_wp2_with (at_builtin; refine wpList_append_any _ rfl _ _ 69 rfl w.heap.size 93 i0 (.agg #[.int .i64 0, .int .i64 0]) 2 16 Tryz.underlying69 hi hz0 hz1 hz2 rfl (by decide) (.slice (some ⟨w.heap.size, 0, none⟩) 0 0) 0 [] rfl (World.ownsRow_lit w #[] 0 (Nat.le_refl _) (Nat.zero_le _) rfl) (.slice (some x) rs.length c) rs.length _ rfl (hr.alloc _) (rcells_one rs) (by have := hr.le; omega) (by omega) (by simp) ?_; intro v2 w2 hown2 hg2; simp only [Nat.zero_add, List.nil_append] at hown2; have hc2 : Chg [] w w2 := ((Chg.refl _ _).alloc _).grown hg2 (by simp [Value.ownBlock]))
    go_ret
    exact ⟨_, rfl, hown2, hc2⟩
end Go.Proofs.YtkedegbpkkgeaaaGreat.lay
/- Systems: layout.Of. -/
namespace Go.Proofs.YtkedegbpkkgeaaaGreat.lay
open Go Go.RowKit Go.Proofs.YtkedegbpkkgeaaaGreat.kit Go.Proofs.YtkedegbpkkgeaaaGreat.obj Go.Proofs.YtkedegbpkkgeaaaGreat.mem
set_option linter.unusedVariables false
set_option linter.unusedSimpArgs false
set_option maxRecDepth 20000

theorem szLayout : (Tryz.prog.info? 71).map (·.size) = some 3 := by kernel_rfl
/-- why there is no layout; 0: there is one -/
def ofCode (ts : List Tk) (os : List Ob) : Int := if lensOk ts os then (if sumI (lensL ts os) ≤ 4096 then 0 else 6) else 1
def ofOwn (ts : List Tk) (os : List Ob) : List (Int × Int) := if ofCode ts os = 0 then (cutL 0 (lensL ts os)).take ts.length else []
def ofObjs (ts : List Tk) (os : List Ob) : List (Int × Int) := if ofCode ts os = 0 then (cutL 0 (lensL ts os)).drop ts.length else []
def ofSize (ts : List Tk) (os : List Ob) : Int := if ofCode ts os = 0 then sumI (lensL ts os) else 0
theorem lens_nonneg {ts : List Tk} {os : List Ob} (h : lensOk ts os = true) : nonneg (lensL ts os) := by
  unfold lensOk at h
  simp only [Bool.and_eq_true, List.all_eq_true] at h
  intro z hz
  unfold lensL at hz
  rcases List.mem_append.1 hz with hz | hz
  · obtain ⟨t, ht, rfl⟩ := List.mem_map.1 hz
    have h1 := h.1 t ht
    simp only [Tk.good, decide_eq_true_eq] at h1
    omega
  · obtain ⟨o, ho, rfl⟩ := List.mem_map.1 hz
    have h1 := o.size_bd
    omega
theorem flatMap_take (rs : List (Int × Int)) (n : Nat) : (rs.flatMap rcells).take (n * 2) = (rs.take n).flatMap rcells := by
  induction rs generalizing n with
  | nil => simp
  | cons r t ih =>
    cases n with
    | zero => simp
    | succ n =>
      rw [show (n + 1) * 2 = (n * 2 + 1) + 1 by omega]
      simp [rcells, List.flatMap_cons] at ih ⊢
      exact ih n
theorem flatMap_drop (rs : List (Int × Int)) (n : Nat) : (rs.flatMap rcells).drop (n * 2) = (rs.drop n).flatMap rcells := by
  induction rs generalizing n with
  | nil => simp
  | cons r t ih =>
    cases n with
    | zero => simp
    | succ n =>
      rw [show (n + 1) * 2 = (n * 2 + 1) + 1 by omega]
      simp [rcells, List.flatMap_cons] at ih ⊢
      exact ih n
theorem lensL_length (ts : List Tk) (os : List Ob) : (lensL ts os).length = ts.length + os.length := by simp [lensL]
end Go.Proofs.YtkedegbpkkgeaaaGreat.lay
/- Systems: layout.Of where all goes well. -/
namespace Go.Proofs.YtkedegbpkkgeaaaGreat.lay
open Go Go.RowKit Go.Proofs.YtkedegbpkkgeaaaGreat.kit Go.Proofs.YtkedegbpkkgeaaaGreat.obj Go.Proofs.YtkedegbpkkgeaaaGreat.mem Go.Proofs.YtkedegbpkkgeaaaGreat.core
set_option linter.unusedVariables false
set_option linter.unusedSimpArgs false
set_option maxRecDepth 20000
theorem clone_regs' (v : Value) (rs : List (Int × Int)) (w : World) (hr : Reads w 2 v rs.length (rs.flatMap rcells)) (hz : rs.length ≤ 10000) :
    Calls Tryz.prog 95 #[v] w fun e w' => ∃ a n c, e = .returned (.slice a n c) ∧ OwnR w' w.heap.size (.slice a n c) rs ∧ Chg [] w w' := by
  refine (clone_regs v rs w hr hz).mono ?_
  rintro e w' ⟨v', rfl, ho, hc⟩
  obtain ⟨a, c, rfl, -⟩ := reads_slice (Reads.of_own ho (by decide))
  exact ⟨_, _, _, rfl, ho, hc⟩
set_option maxHeartbeats 8000000 in
theorem Of_ok (ta : Option Addr) (tl tc : Nat) (oa : Option Addr) (ol oc : Nat) (ts : List Tk) (os : List Ob) (W : World) (hT : ReadsT W (.slice ta tl tc) ts) (hO : ReadsO W (.slice oa ol oc) os) (hw : ∀ o ∈ os, o.W) (hl : ts.length ≤ 1000 ∧ os.length ≤ 1000) (hR : lensOk ts os = true) (hS : sumI (lensL ts os) ≤ 4096) :
    Calls Tryz.prog 65 #[.agg #[.slice ta tl tc, .slice oa ol oc]] W fun e W' => ∃ v1 v2, e = .returned (.tuple #[.agg #[v1, v2, .int .i64 (sumI (lensL ts os))], .int .i64 0]) ∧ OwnR W' W.heap.size v1 ((cutL 0 (lensL ts os)).take ts.length) ∧ OwnR W' W.heap.size v2 ((cutL 0 (lensL ts os)).drop ts.length) ∧ Chg [] W W' := by
  have HCA : Hid (Chg [] W ((W.alloc (.cells #[.slice ta tl tc, .slice oa ol oc] 25)).alloc (.cells #[.slice none 0 0, .slice none 0 0, .int .i64 0] 71))) := Lib.hid (((Chg.refl _ _).alloc _).alloc _)
  have HLE := Lib.hid (lens_any ta tl tc oa ol oc ts os ((W.alloc (.cells #[.slice ta tl tc, .slice oa ol oc] 25)).alloc (.cells #[.slice none 0 0, .slice none 0 0, .int .i64 0] 71)) (hT.chg HCA.out) (hO.chg HCA.out) hw hl)
  have HR := Lib.hid hR
  have hnn := lens_nonneg hR
  have hln := lensL_length ts os
  have htl : tl = ts.length := by obtain ⟨_, _, he, _⟩ := reads_slice hT.1; simp at he; exact he.2.1
  subst htl
  obtain ⟨zs, hzs⟩ : ∃ zs, lensL ts os = zs := ⟨_, rfl⟩
  rw [hzs] at hnn hln HLE hS ⊢
  have HLN : Hid (zs.length = ts.length + os.length ∧ ts.length ≤ 1000 ∧ os.length ≤ 1000) := Lib.hid ⟨hln, hl⟩
  have HZN := Lib.hid hnn
  have HS := Lib.hid hS
  have HZS := Lib.hid hzs
  have HCU : Hid (∀ V lv, OwnI V ((W.alloc (.cells #[.slice ta ts.length tc, .slice oa ol oc] 25)).alloc (.cells #[.slice none 0 0, .slice none 0 0, .int .i64 0] 71)).heap.size lv zs → Calls Tryz.prog 94 #[.int .i64 4096, lv] V fun e W' => ∃ v', e = .returned (.tuple #[v', .int .i64 (if sumI zs ≤ 4096 then 0 else 6)]) ∧ OwnR W' V.heap.size v' (if sumI zs ≤ 4096 then cutL 0 zs else []) ∧ Chg [] V W') := Lib.hid (fun V lv h => Cut_any lv zs V h.reads (by omega) hnn)
  have HBX : Hid (Blk ((W.alloc (.cells #[.slice ta ts.length tc, .slice oa ol oc] 25)).alloc (.cells #[.slice none 0 0, .slice none 0 0, .int .i64 0] 71)) W.heap.size #[.slice ta ts.length tc, .slice oa ol oc] 25) := Lib.hid ((Blk.new W _ _).alloc _)
  have HBR : Hid (Blk ((W.alloc (.cells #[.slice ta ts.length tc, .slice oa ol oc] 25)).alloc (.cells #[.slice none 0 0, .slice none 0 0, .int .i64 0] 71)) (W.heap.size + 1) #[.slice none 0 0, .slice none 0 0, .int .i64 0] 71) := Lib.hid (by have := Blk.new (W.alloc (.cells #[.slice ta ts.length tc, .slice oa ol oc] 25)) #[.slice none 0 0, .slice none 0 0, .int .i64 0] 71; rwa [show (W.alloc (.cells #[.slice ta ts.length tc, .slice oa ol oc] 25)).heap.size = W.heap.size + 1 by simp] at this)
  obtain ⟨sz, hsz⟩ : ∃ sz, sumI zs = sz := ⟨_, rfl⟩
  have HSZ := Lib.hid hsz
  rw [hsz]
  clear hsz
  clear hT hO hw hl hR hS hzs hnn hln
  go_enter Tryz.func65, Tryz.ntmps65
  go_upto_region 7 with (first | (go_at_call 93; refine HLE.out.mono ?_; rintro e w2 ⟨lv, rfl, hol, hcl⟩; rw [HR.out] at hol ⊢; simp only [if_true] at hol; have HOL := Lib.hid hol; have HC2 := Lib.hid hcl; have HBR := Lib.hid (HBR.out.keep hcl (by simp)); have HBX := Lib.hid (HBX.out.keep hcl (by simp)); have r0 := HBR.out.free 0; have r1 := HBR.out.free 1; have r2 := HBR.out.free 2; have q0 := HBR.out.cell (o := 0) rfl; have q1 := HBR.out.cell (o := 1) rfl; have q2 := HBR.out.cell (o := 2) rfl; clear hol hcl) | (go_at_call 94; refine (HCU.out _ _ HOL.out).mono ?_; rintro e w3 ⟨rv, rfl, hor, hcr⟩; rw [if_pos HS.out] at hor; rw [if_pos HS.out]; have HOR := Lib.hid hor; have HC3 := Lib.hid hcr; have HBR := Lib.hid (HBR.out.keep hcr (by simp)); have HBX := Lib.hid (HBX.out.keep hcr (by simp)); clear hor hcr q0 q1 q2; have q0 := HBR.out.cell (o := 0) rfl; have q1 := HBR.out.cell (o := 1) rfl; have q2 := HBR.out.cell (o := 2) rfl; have r0 := HBR.out.free 0; have r1 := HBR.out.free 1; have r2 := HBR.out.free 2))
  have HBRL : Hid (W.heap.size + 1 < w3.heap.size) := Lib.hid HBR.out.lt
  have hrd : Reads w3 2 rv (cutL 0 zs).length ((cutL 0 zs).flatMap rcells) := Reads.of_own HOR.out (by decide)
  have hcl := cutL_length 0 zs
  obtain ⟨va1, e1, s1, -⟩ := slice_high (P := Tryz.prog) Tryz.underlying69 szReg hrd ts.length (by have := HLN.out; rw [hcl]; omega)
  obtain ⟨va2, e2, s2, -⟩ := slice_low (P := Tryz.prog) Tryz.underlying69 szReg hrd ts.length (by have := HLN.out; rw [hcl]; omega)
  rw [flatMap_take] at s1
  rw [flatMap_drop] at s2
  have hl1 : ((cutL 0 zs).take ts.length).length = ts.length := by have := HLN.out; rw [List.length_take, hcl]; omega
  have hl2 : ((cutL 0 zs).drop ts.length).length = (cutL 0 zs).length - ts.length := List.length_drop
  have s1' : Reads w3 2 va1 ((cutL 0 zs).take ts.length).length (((cutL 0 zs).take ts.length).flatMap rcells) := by rw [hl1]; exact s1
  have s2' : Reads w3 2 va2 ((cutL 0 zs).drop ts.length).length (((cutL 0 zs).drop ts.length).flatMap rcells) := by rw [hl2]; exact s2
  have HCL1 := Lib.hid (fun V (h : Chg [] w3 V) => clone_regs' va1 _ V (Reads.fresh s1' h) (by have := HLN.out; rw [hl1]; omega))
  have HCL2 := Lib.hid (fun V (h : Chg [] w3 V) => clone_regs' va2 _ V (Reads.fresh s2' h) (by have := HLN.out; rw [hl2, hcl]; omega))
  have eS0 : w3.cell? ⟨W.heap.size, 0, none⟩ = some (.slice ta ts.length tc) := HBX.out.cell rfl
  have KEEP := Lib.hid (fun (V : World) (h : Chg [] w3 V) => (⟨h.keep eS0 (by simp), Lib.hid h⟩ : (fun V : World => V.cell? ⟨W.heap.size, 0, none⟩ = some (.slice ta ts.length tc) ∧ Hid (Chg [] w3 V)) V))
  have HD : Hid (Chg [] w3 w3.drew) := Lib.hid (Chg.refl _ _).drew
  obtain ⟨bb, off, hxI, hxC, -⟩ := reads_index (P := Tryz.prog) Tryz.underlying33 szInt (OwnI.reads HOL.out)
  have HCE := Lib.hid hxC
  obtain ⟨la, lcc, rfl, -⟩ := reads_slice (OwnI.reads HOL.out)
  have HXI := Lib.hid hxI
  clear s1 s2 s1' s2' hrd hcl hl1 hl2 eS0 hxC hxI q0 q1 q2 r0 r1 r2
  go_cut [8] from 28 to 40 (fun p wc => ∃ nb v1 v2, p = .pointer (some ⟨nb, 0, none⟩) ∧ Hid (Blk wc nb #[v1, v2, .int .i64 0] 71) ∧ Hid (OwnR wc w3.heap.size v1 ((cutL 0 zs).take ts.length)) ∧ Hid (OwnR wc w3.heap.size v2 ((cutL 0 zs).drop ts.length)) ∧ Hid (Chg [] w3 wc) ∧ Hid (w3.heap.size ≤ nb) ∧ Hid (∀ b, v1.ownBlock = some b → b ∉ [nb]) ∧ Hid (∀ b, v2.ownBlock = some b → b ∉ [nb]))
  case first =>
    have hHeld : (fun V : World => V.cell? ⟨W.heap.size, 0, none⟩ = some (.slice ta ts.length tc) ∧ Hid (Chg [] w3 V)) w3.drew := KEEP.out _ HD.out
    refine wp_region_pt (fun V : World => V.cell? ⟨W.heap.size, 0, none⟩ = some (.slice ta ts.length tc) ∧ Hid (Chg [] w3 V)) (PT.read 0 (some 28) (PT.read 1 (some 29) (PT.read 2 (some 30) (PT.read 3 (some 31) (PT.read 4 (some 32) (PT.read 6 (some 34) (PT.read 7 (some 35) (PT.read 8 (some 36) (PT.read 9 (some 37) (PT.read 10 (some 38) (PT.fork 5 (some 33) (PT.fork 11 (some 39) (PT.read 12 (some 40) (PT.act 13 (some 8) (PT.act 14 none PT.nil))) 13 (some 8) (PT.act 11 (some 39) (PT.read 12 (some 40) (PT.act 14 none PT.nil)))) 13 (some 8) (PT.act 5 (some 33) (PT.act 11 (some 39) (PT.read 12 (some 40) (PT.act 14 none PT.nil))))))))))))))) (by kernel_rfl) (by kernel_rfl) (by kernel_rfl) (by kernel_rfl) (fun d c a v w h => by cases d <;> exact h) hHeld ?_
    clear hHeld
    (repeat (refine pt_read (v := ?_) rfl rfl ?_ ?_ ?_; rotate_left; (focus rfl); (focus (intro u hSw; (try dsimp only at hSw); go_simp; (try with_reducible rfl); done)); (try simp only [Act.put, List.setIfInBounds_toArray, List.set_cons_zero, List.set_cons_succ])))
    refine pt_fork ?_ ?_
    · refine act_do rfl rfl ?_ (fun K hK => ?_)
      · rfl
      go_simp
      go_wp2_with (go_at_call 95; refine (HCL1.out _ HD.out).mono ?_; rintro e w4 ⟨xa1, xn1, xc1, rfl, hov, hcv⟩; have HO1 : Hid (OwnR w4 w3.heap.size (.slice xa1 xn1 xc1) ((cutL 0 zs).take ts.length)) := Lib.hid (mem.own_base hov HD.out.size); have HOB1 := Lib.hid hov; have HS1 := Lib.hid hcv; have HC4 := Lib.hid (HD.out.trans hcv); clear hov hcv)
      refine hK.out _ _ (KEEP.out _ HC4.out) (fun _ => ?_)
      clear hK K
      try simp only [Act.put, List.setIfInBounds_toArray, List.set_cons_zero, List.set_cons_succ]
      refine pt_fork ?_ ?_
      · refine act_do rfl rfl ?_ (fun K hK => ?_)
        · rfl
        go_simp
        go_wp2_with (go_at_call 95; refine (HCL2.out _ HC4.out).mono ?_; rintro e w5 ⟨xa2, xn2, xc2, rfl, hov, hcv⟩; have HO2 : Hid (OwnR w5 w3.heap.size (.slice xa2 xn2 xc2) ((cutL 0 zs).drop ts.length)) := Lib.hid (mem.own_base hov HC4.out.size); have HOB2 := Lib.hid hov; have HS2 := Lib.hid hcv; have HC5 := Lib.hid (HC4.out.trans hcv); clear hov hcv)
        refine hK.out _ _ (KEEP.out _ HC5.out) (fun _ => ?_)
        clear hK K
        try simp only [Act.put, List.setIfInBounds_toArray, List.set_cons_zero, List.set_cons_succ]
        (repeat (refine pt_read (v := ?_) rfl rfl ?_ ?_ ?_; rotate_left; (focus rfl); (focus (intro u hSw; (try dsimp only at hSw); go_simp; (try with_reducible rfl); done)); (try simp only [Act.put, List.setIfInBounds_toArray, List.set_cons_zero, List.set_cons_succ])))
        refine pt_act ?_
        refine act_do rfl rfl ?_ (fun K hK => ?_)
        · rfl
        go_simp
        have HC6 : Hid (Chg [] w3 (w5.alloc (.cells #[.slice none 0 0, .slice none 0 0, .int .i64 0] 71))) := Lib.hid (HC5.out.alloc _)
        refine hK.out _ _ (KEEP.out _ HC6.out) (fun _ => ?_)
        clear hK K
        try simp only [Act.put, List.setIfInBounds_toArray, List.set_cons_zero, List.set_cons_succ]
        (repeat (refine pt_read (v := ?_) rfl rfl ?_ ?_ ?_; rotate_left; (focus rfl); (focus (intro u hSw; (try dsimp only at hSw); go_simp; (try with_reducible rfl); done)); (try simp only [Act.put, List.setIfInBounds_toArray, List.set_cons_zero, List.set_cons_succ])))
        have HB := Lib.hid (Blk.new w5 #[.slice none 0 0, .slice none 0 0, .int .i64 0] 71)
        have HN1 : Hid (∀ b, (Value.slice xa1 xn1 xc1).ownBlock = some b → b ∉ [w5.heap.size]) := Lib.hid (fun b hb => by have h9 := (World.ownsRow.lt (mem.own_chg HO1.out HS2.out (by simp)) b hb).2; simp; omega)
        have HN2 : Hid (∀ b, (Value.slice xa2 xn2 xc2).ownBlock = some b → b ∉ [w5.heap.size]) := Lib.hid (fun b hb => by have h9 := (World.ownsRow.lt HO2.out b hb).2; simp; omega)
        have HNB : Hid (w3.heap.size ≤ w5.heap.size) := Lib.hid (by have := HC5.out.size; omega)
        have HP1 := Lib.hid (mem.own_chg (mem.own_chg HO1.out HS2.out (by simp)) ((Chg.refl [] w5).alloc (.cells #[.slice none 0 0, .slice none 0 0, .int .i64 0] 71)) (by simp))
        have HP2 := Lib.hid (mem.own_chg HO2.out ((Chg.refl [] w5).alloc (.cells #[.slice none 0 0, .slice none 0 0, .int .i64 0] 71)) (by simp))
        refine pt_act (act_do rfl rfl ?_ (fun K hK => ?_))
        · rfl
        refine wp_store_blk 71 (.tmp 8) (.tmp 40) rfl w5.heap.size #[.slice xa1 xn1 xc1, .slice xa2 xn2 xc2, .int .i64 0] rfl rfl HB.out szLayout rfl (by simp [Value.oneCell']) ?_
        intro w9 hb9 hc9
        have HB9 := Lib.hid hb9
        have HC9 : Hid (Chg [] w3 w9) := Lib.hid (HC6.out.into hc9 (fun y hy => .inr (by simp at hy; rw [hy]; exact HNB.out)))
        have HQ1 := Lib.hid (mem.own_chg HP1.out hc9 HN1.out)
        have HQ2 := Lib.hid (mem.own_chg HP2.out hc9 HN2.out)
        clear hb9 hc9
        refine hK.out _ _ (KEEP.out _ HC9.out) (fun _ => ?_)
        clear hK K
        try simp only [Act.put, List.setIfInBounds_toArray, List.set_cons_zero, List.set_cons_succ]
        refine pt_nil ?_
        go_wp2_with fail
        go_meet
        case rel => exact ⟨w5.heap.size, _, _, rfl, HB9, HQ1, HQ2, HC9, HNB, HN1, HN2⟩
      · refine act_do rfl rfl ?_ (fun K hK => ?_)
        · rfl
        go_simp
        have HC6 : Hid (Chg [] w3 (w4.alloc (.cells #[.slice none 0 0, .slice none 0 0, .int .i64 0] 71))) := Lib.hid (HC4.out.alloc _)
        refine hK.out _ _ (KEEP.out _ HC6.out) (fun _ => ?_)
        clear hK K
        try simp only [Act.put, List.setIfInBounds_toArray, List.set_cons_zero, List.set_cons_succ]
        refine pt_act ?_
        refine act_do rfl rfl ?_ (fun K hK => ?_)
        · rfl
        go_simp
        go_wp2_with (go_at_call 95; refine (HCL2.out _ HC6.out).mono ?_; rintro e w5 ⟨xa2, xn2, xc2, rfl, hov, hcv⟩; have HO2 : Hid (OwnR w5 w3.heap.size (.slice xa2 xn2 xc2) ((cutL 0 zs).drop ts.length)) := Lib.hid (mem.own_base hov HC6.out.size); have HOB2 := Lib.hid hov; have HS2 := Lib.hid hcv; have HC5 := Lib.hid (HC6.out.trans hcv); clear hov hcv)
        refine hK.out _ _ (KEEP.out _ HC5.out) (fun _ => ?_)
        clear hK K
        try simp only [Act.put, List.setIfInBounds_toArray, List.set_cons_zero, List.set_cons_succ]
        (repeat (refine pt_read (v := ?_) rfl rfl ?_ ?_ ?_; rotate_left; (focus rfl); (focus (intro u hSw; (try dsimp only at hSw); go_simp; (try with_reducible rfl); done)); (try simp only [Act.put, List.setIfInBounds_toArray, List.set_cons_zero, List.set_cons_succ])))
        have HB := Lib.hid ((Blk.new w4 #[.slice none 0 0, .slice none 0 0, .int .i64 0] 71).keep HS2.out (by simp))
        have HN1 : Hid (∀ b, (Value.slice xa1 xn1 xc1).ownBlock = some b → b ∉ [w4.heap.size]) := Lib.hid (fun b hb => by have h9 := (World.ownsRow.lt HO1.out b hb).2; simp; omega)
        have HN2 : Hid (∀ b, (Value.slice xa2 xn2 xc2).ownBlock = some b → b ∉ [w4.heap.size]) := Lib.hid (own_ne HOB2.out (Blk.new w4 #[.slice none 0 0, .slice none 0 0, .int .i64 0] 71))
        have HNB : Hid (w3.heap.size ≤ w4.heap.size) := Lib.hid (by have := HC4.out.size; omega)
        have HP1 := Lib.hid (mem.own_chg (mem.own_chg HO1.out ((Chg.refl [] w4).alloc (.cells #[.slice none 0 0, .slice none 0 0, .int .i64 0] 71)) (by simp)) HS2.out (by simp))
        have HP2 := Lib.hid HO2.out
        refine pt_act (act_do rfl rfl ?_ (fun K hK => ?_))
        · rfl
        refine wp_store_blk 71 (.tmp 8) (.tmp 40) rfl w4.heap.size #[.slice xa1 xn1 xc1, .slice xa2 xn2 xc2, .int .i64 0] rfl rfl HB.out szLayout rfl (by simp [Value.oneCell']) ?_
        intro w9 hb9 hc9
        have HB9 := Lib.hid hb9
        have HC9 : Hid (Chg [] w3 w9) := Lib.hid (HC5.out.into hc9 (fun y hy => .inr (by simp at hy; rw [hy]; exact HNB.out)))
        have HQ1 := Lib.hid (mem.own_chg HP1.out hc9 HN1.out)
        have HQ2 := Lib.hid (mem.own_chg HP2.out hc9 HN2.out)
        clear hb9 hc9
        refine hK.out _ _ (KEEP.out _ HC9.out) (fun _ => ?_)
        clear hK K
        try simp only [Act.put, List.setIfInBounds_toArray, List.set_cons_zero, List.set_cons_succ]
        refine pt_nil ?_
        go_wp2_with fail
        go_meet
        case rel => exact ⟨w4.heap.size, _, _, rfl, HB9, HQ1, HQ2, HC9, HNB, HN1, HN2⟩
    · refine act_do rfl rfl ?_ (fun K hK => ?_)
      · rfl
      go_simp
      have HC6 : Hid (Chg [] w3 (w3.drew.alloc (.cells #[.slice none 0 0, .slice none 0 0, .int .i64 0] 71))) := Lib.hid (HD.out.alloc _)
      refine hK.out _ _ (KEEP.out _ HC6.out) (fun _ => ?_)
      clear hK K
      try simp only [Act.put, List.setIfInBounds_toArray, List.set_cons_zero, List.set_cons_succ]
      refine pt_act ?_
      refine act_do rfl rfl ?_ (fun K hK => ?_)
      · rfl
      go_simp
      go_wp2_with (go_at_call 95; refine (HCL1.out _ HC6.out).mono ?_; rintro e w4 ⟨xa1, xn1, xc1, rfl, hov, hcv⟩; have HO1 : Hid (OwnR w4 w3.heap.size (.slice xa1 xn1 xc1) ((cutL 0 zs).take ts.length)) := Lib.hid (mem.own_base hov HC6.out.size); have HOB1 := Lib.hid hov; have HS1 := Lib.hid hcv; have HC4 := Lib.hid (HC6.out.trans hcv); clear hov hcv)
      refine hK.out _ _ (KEEP.out _ HC4.out) (fun _ => ?_)
      clear hK K
      try simp only [Act.put, List.setIfInBounds_toArray, List.set_cons_zero, List.set_cons_succ]
      refine pt_act ?_
      refine act_do rfl rfl ?_ (fun K hK => ?_)
      · rfl
      go_simp
      go_wp2_with (go_at_call 95; refine (HCL2.out _ HC4.out).mono ?_; rintro e w5 ⟨xa2, xn2, xc2, rfl, hov, hcv⟩; have HO2 : Hid (OwnR w5 w3.heap.size (.slice xa2 xn2 xc2) ((cutL 0 zs).drop ts.length)) := Lib.hid (mem.own_base hov HC4.out.size); have HOB2 := Lib.hid hov; have HS2 := Lib.hid hcv; have HC5 := Lib.hid (HC4.out.trans hcv); clear hov hcv)
      refine hK.out _ _ (KEEP.out _ HC5.out) (fun _ => ?_)
      clear hK K
      try simp only [Act.put, List.setIfInBounds_toArray, List.set_cons_zero, List.set_cons_succ]
      (repeat (refine pt_read (v := ?_) rfl rfl ?_ ?_ ?_; rotate_left; (focus rfl); (focus (intro u hSw; (try dsimp only at hSw); go_simp; (try with_reducible rfl); done)); (try simp only [Act.put, List.setIfInBounds_toArray, List.set_cons_zero, List.set_cons_succ])))
      have HB := Lib.hid (((Blk.new w3.drew #[.slice none 0 0, .slice none 0 0, .int .i64 0] 71).keep HS1.out (by simp)).keep HS2.out (by simp))
      have HN1 : Hid (∀ b, (Value.slice xa1 xn1 xc1).ownBlock = some b → b ∉ [w3.drew.heap.size]) := Lib.hid (own_ne HOB1.out (Blk.new w3.drew #[.slice none 0 0, .slice none 0 0, .int .i64 0] 71))
      have HN2 : Hid (∀ b, (Value.slice xa2 xn2 xc2).ownBlock = some b → b ∉ [w3.drew.heap.size]) := Lib.hid (fun b hb => by have h9 := (World.ownsRow.lt HOB2.out b hb).1; have h8 := HC4.out.size; have h7 := HS1.out.size; simp at h7 ⊢; omega)
      have HNB : Hid (w3.heap.size ≤ w3.drew.heap.size) := Lib.hid (by have := HD.out.size; omega)
      have HP1 := Lib.hid (mem.own_chg HO1.out HS2.out (by simp))
      have HP2 := Lib.hid HO2.out
      refine pt_act (act_do rfl rfl ?_ (fun K hK => ?_))
      · rfl
      refine wp_store_blk 71 (.tmp 8) (.tmp 40) rfl w3.drew.heap.size #[.slice xa1 xn1 xc1, .slice xa2 xn2 xc2, .int .i64 0] rfl rfl HB.out szLayout rfl (by simp [Value.oneCell']) ?_
      intro w9 hb9 hc9
      have HB9 := Lib.hid hb9
      have HC9 : Hid (Chg [] w3 w9) := Lib.hid (HC5.out.into hc9 (fun y hy => .inr (by simp at hy; rw [hy]; exact HNB.out)))
      have HQ1 := Lib.hid (mem.own_chg HP1.out hc9 HN1.out)
      have HQ2 := Lib.hid (mem.own_chg HP2.out hc9 HN2.out)
      clear hb9 hc9
      refine hK.out _ _ (KEEP.out _ HC9.out) (fun _ => ?_)
      clear hK K
      try simp only [Act.put, List.setIfInBounds_toArray, List.set_cons_zero, List.set_cons_succ]
      refine pt_nil ?_
      go_wp2_with fail
      go_meet
      case rel => exact ⟨w3.drew.heap.size, _, _, rfl, HB9, HQ1, HQ2, HC9, HNB, HN1, HN2⟩
  case rest =>
    obtain ⟨nb, v1, v2, rfl, HB9, HQ1, HQ2, HC9, HNB, HM1, HM2⟩ := hcut
    obtain ⟨xa1, xn1, xc1, rfl⟩ : ∃ a n c, v1 = .slice a n c := by obtain ⟨a, c, h, -⟩ := reads_slice (Reads.of_own HQ1.out (by decide)); exact ⟨a, _, c, h⟩
    obtain ⟨xa2, xn2, xc2, rfl⟩ : ∃ a n c, v2 = .slice a n c := by obtain ⟨a, c, h, -⟩ := reads_slice (Reads.of_own HQ2.out (by decide)); exact ⟨a, _, c, h⟩
    have HX := HXI
    clear HXI
    obtain ⟨wo, rfl⟩ : ∃ wo : World, wo = wc := ⟨_, rfl⟩
    go_wp2_with fail
    go_loopw [10, 43] (fun _ i wr => ∃ j : Nat, j ≤ zs.length ∧ i = .int .i64 j ∧ Hid (Blk wr nb #[.slice xa1 xn1 xc1, .slice xa2 xn2 xc2, .int .i64 (sumI (zs.take j))] 71) ∧ Hid (Chg [nb] wo wr)) (fun _ i _ => zs.length - (intOf i).toNat)
    case atStart => exact ⟨0, Nat.zero_le _, rfl, HB9, Lib.hid (Chg.refl _ _)⟩
    case round =>
      obtain ⟨j, hj, rfl, HBJ, HJ⟩ := hrel
      have HJ3 : Hid (Chg [] w3 wr) := Lib.hid (HC9.out.into HJ.out (fun y hy => .inr (by simp at hy; rw [hy]; exact HNB.out)))
      by_cases hlt : j < zs.length
      · have HLT := Lib.hid hlt
        have g1 := HX.out j hlt
        obtain ⟨x, hxk⟩ : ∃ x, zs[j]? = some x := ⟨_, List.getElem?_eq_getElem hlt⟩
        have q0 := (HC3.out.trans HJ3.out).keep (HCE.out j (.int .i64 x) (by rw [List.getElem?_map, hxk]; rfl)) (by simp)
        have HTK := Lib.hid (sumI_take hxk)
        rw [Nat.mul_one] at g1
        have h1 := sumI_le HZN.out j
        have h2 := sumI_le HZN.out (j + 1)
        have h3 := sumI_nn (fun z hz => HZN.out z (List.mem_of_mem_take hz) : nonneg (zs.take j))
        have h4 := HZN.out _ (List.mem_of_getElem? hxk)
        have h5 := HS.out
        have h6 := HLN.out
        have k8 : IntKind.i64.wrap ((j : Int) + 1) = (j : Int) + 1 := by rw [IntKind.wrap_i64]; omega
        have k7 : IntKind.i64.wrap (sumI (zs.take j) + x) = sumI (zs.take (j + 1)) := by rw [HTK.out, IntKind.wrap_i64]; omega
        have K7 := Lib.hid k7
        obtain ⟨sj, hsj⟩ : ∃ sj, sumI (zs.take j) = sj := ⟨_, rfl⟩
        obtain ⟨sj1, hsj1⟩ : ∃ sj, sumI (zs.take (j + 1)) = sj := ⟨_, rfl⟩
        rw [hsj] at k7 HBJ
        rw [hsj1] at k7
        have k6 : sj + x = sj1 := by rw [← hsj, ← hsj1, HTK.out]
        have HK6 := Lib.hid k6
        have HSJ1 := Lib.hid hsj1
        have hb2 : -1 ≤ sj + x ∧ sj + x ≤ 5000 := by rw [k6, ← hsj1]; have := sumI_nn (fun z hz => HZN.out z (List.mem_of_mem_take hz) : nonneg (zs.take (j + 1))); omega
        have c2 := HBJ.out.cell (o := 2) rfl
        have f2 := HBJ.out.free 2
        clear h1 h2 h3 h4 h5 h6 hxk hj hlt hsj hsj1 k7 k6 
        go_wp2_with fail
        have hltj := HLT.out
        go_roundw
        case rel =>
          refine ⟨j + 1, by omega, by go_num, Lib.hid ?_, Lib.hid (HJ.out.setCell (p := ⟨nb, 2, none⟩) (.inl (by simp)) _)⟩
          have h9 := HBJ.out.set 2 (.int .i64 (sj + x))
          simp only [List.setIfInBounds_toArray, List.set_cons_zero, List.set_cons_succ] at h9
          rw [HSJ1.out, ← HK6.out]
          exact h9
        case measure => simp [intOf]; omega
      · obtain rfl : zs.length = j := by omega
        clear hlt hj
        have HBE : Hid (Blk wr nb #[.slice xa1 xn1 xc1, .slice xa2 xn2 xc2, .int .i64 (sumI zs)] 71) := Lib.hid (by have := HBJ.out; rwa [List.take_length] at this)
        have HBR := Lib.hid (HBR.out.keep HJ3.out (by simp))
        clear HBJ
        have HBE : Hid (Blk wr nb #[.slice xa1 xn1 xc1, .slice xa2 xn2 xc2, .int .i64 sz] 71) := Lib.hid (by rw [← HSZ.out]; exact HBE.out)
        have c0 := HBE.out.cell (o := 0) rfl
        have c1 := HBE.out.cell (o := 1) rfl
        have c2 := HBE.out.cell (o := 2) rfl
        have q0 := HBR.out.cell (o := 0) rfl
        have q1 := HBR.out.cell (o := 1) rfl
        have q2 := HBR.out.cell (o := 2) rfl
        have r0 := HBR.out.free 0
        have r1 := HBR.out.free 1
        have r2 := HBR.out.free 2
        have hne : ¬ nb = W.heap.size + 1 := by have h1 := HNB.out; have h2 := HBRL.out; omega
        have HNE := Lib.hid hne
        clear hne
        go_wp2_with fail
        have HJ4 : Chg [W.heap.size + 1] wr _ := (((Chg.refl [W.heap.size + 1] wr).setCell (p := ⟨W.heap.size + 1, 0, none⟩) (.inl (by simp)) (.slice xa1 xn1 xc1)).setCell (p := ⟨W.heap.size + 1, 1, none⟩) (.inl (by simp)) (.slice xa2 xn2 xc2)).setCell (p := ⟨W.heap.size + 1, 2, none⟩) (.inl (by simp)) (.int .i64 sz)
        have hall : Chg [] W wr := (HCA.out.trans (HC2.out.trans HC3.out)).trans HJ3.out
        refine bodyPost_ret (results_row_tmp rfl _ _ (W.heap.size + 1) 71 #[.slice xa1 xn1 xc1, .slice xa2 xn2 xc2, .int .i64 sz] (0, 0) _ rfl (((HBR.out.set 0 (.slice xa1 xn1 xc1)).set 1 (.slice xa2 xn2 xc2)).set 2 (.int .i64 sz)) Tryz.underlying71 rfl szLayout) rfl ?_
        refine ⟨_, _, rfl, ?_, ?_, ?_⟩
        · exact mem.own_base (mem.own_chg (mem.own_chg HQ1.out HJ.out HM1.out) HJ4 (fun y hy => by have h9 := (World.ownsRow.lt HQ1.out y hy).1; have h2 := HBRL.out; simp; omega)) (by have := (HCA.out.trans (HC2.out.trans HC3.out)).size; omega)
        · exact mem.own_base (mem.own_chg (mem.own_chg HQ2.out HJ.out HM2.out) HJ4 (fun y hy => by have h9 := (World.ownsRow.lt HQ2.out y hy).1; have h2 := HBRL.out; simp; omega)) (by have := (HCA.out.trans (HC2.out.trans HC3.out)).size; omega)
        · exact hall.into HJ4 (fun y hy => .inr (by simp at hy; omega))
end Go.Proofs.YtkedegbpkkgeaaaGreat.lay
