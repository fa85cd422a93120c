/- Systems: layout.Of. -/
import Derived.Test.YtjplamoofkcojaaLay5
import Derived.Test.YtjplamoofkcojaaCoreB
namespace Go.Proofs.Ytjplamoofkcojaa.lay
open Go Go.RowKit Go.Proofs.Ytjplamoofkcojaa.kit Go.Proofs.Ytjplamoofkcojaa.obj Go.Proofs.Ytjplamoofkcojaa.mem
set_option linter.unusedVariables false
set_option linter.unusedSimpArgs false
set_option maxRecDepth 20000

theorem szLayout : (Try.prog.info? 53).map (·.size) = some 3 := by kernel_rfl
/-- why there is no layout; 0: there is one -/
def ofCode (ts : List Tk) (os : List Ob) : Int := if lensOk ts os then (if sumI (lensL ts os) ≤ 4096 then 0 else 6) else 1
def ofOwn (ts : List Tk) (os : List Ob) : List (Int × Int) := if ofCode ts os = 0 then (cutL 0 (lensL ts os)).take ts.length else []
def ofObjs (ts : List Tk) (os : List Ob) : List (Int × Int) := if ofCode ts os = 0 then (cutL 0 (lensL ts os)).drop ts.length else []
def ofSize (ts : List Tk) (os : List Ob) : Int := if ofCode ts os = 0 then sumI (lensL ts os) else 0
theorem lens_nonneg {ts : List Tk} {os : List Ob} (h : lensOk ts os = true) : nonneg (lensL ts os) := by
  unfold lensOk at h
  simp only [Bool.and_eq_true, List.all_eq_true] at h
  intro z hz
  unfold lensL at hz
  rcases List.mem_append.1 hz with hz | hz
  · obtain ⟨t, ht, rfl⟩ := List.mem_map.1 hz
    have h1 := h.1 t ht
    simp only [Tk.good, decide_eq_true_eq] at h1
    omega
  · obtain ⟨o, ho, rfl⟩ := List.mem_map.1 hz
    have h1 := o.size_bd
    omega
theorem flatMap_take (rs : List (Int × Int)) (n : Nat) : (rs.flatMap rcells).take (n * 2) = (rs.take n).flatMap rcells := by
  induction rs generalizing n with
  | nil => simp
  | cons r t ih =>
    cases n with
    | zero => simp
    | succ n =>
      rw [show (n + 1) * 2 = (n * 2 + 1) + 1 by omega]
      simp [rcells, List.flatMap_cons] at ih ⊢
      exact ih n
theorem flatMap_drop (rs : List (Int × Int)) (n : Nat) : (rs.flatMap rcells).drop (n * 2) = (rs.drop n).flatMap rcells := by
  induction rs generalizing n with
  | nil => simp
  | cons r t ih =>
    cases n with
    | zero => simp
    | succ n =>
      rw [show (n + 1) * 2 = (n * 2 + 1) + 1 by omega]
      simp [rcells, List.flatMap_cons] at ih ⊢
      exact ih n
theorem lensL_length (ts : List Tk) (os : List Ob) : (lensL ts os).length = ts.length + os.length := by simp [lensL]
set_option maxHeartbeats 4000000 in
theorem Of_bad (ta : Option Addr) (tl tc : Nat) (oa : Option Addr) (ol oc : Nat) (ts : List Tk) (os : List Ob) (W : World) (hT : ReadsT W (.slice ta tl tc) ts) (hO : ReadsO W (.slice oa ol oc) os) (hw : ∀ o ∈ os, o.W) (hl : ts.length ≤ 1000 ∧ os.length ≤ 1000) (hR : lensOk ts os = false) :
    Calls Try.prog 22 #[.agg #[.slice ta tl tc, .slice oa ol oc]] W fun e W' => e = .returned (.tuple #[.agg #[.slice none 0 0, .slice none 0 0, .int .i64 0], .int .i64 1]) ∧ Chg [] W W' := by
  have HCA : Hid (Chg [] W ((W.alloc (.cells #[.slice ta tl tc, .slice oa ol oc] 49)).alloc (.cells #[.slice none 0 0, .slice none 0 0, .int .i64 0] 53))) := Lib.hid (((Chg.refl _ _).alloc _).alloc _)
  have HLE := Lib.hid (lens_any ta tl tc oa ol oc ts os ((W.alloc (.cells #[.slice ta tl tc, .slice oa ol oc] 49)).alloc (.cells #[.slice none 0 0, .slice none 0 0, .int .i64 0] 53)) (hT.chg HCA.out) (hO.chg HCA.out) hw hl)
  have HR := Lib.hid hR
  have HBX : Hid (Blk ((W.alloc (.cells #[.slice ta tl tc, .slice oa ol oc] 49)).alloc (.cells #[.slice none 0 0, .slice none 0 0, .int .i64 0] 53)) W.heap.size #[.slice ta tl tc, .slice oa ol oc] 49) := Lib.hid ((Blk.new W _ _).alloc _)
  have HBR : Hid (Blk ((W.alloc (.cells #[.slice ta tl tc, .slice oa ol oc] 49)).alloc (.cells #[.slice none 0 0, .slice none 0 0, .int .i64 0] 53)) (W.heap.size + 1) #[.slice none 0 0, .slice none 0 0, .int .i64 0] 53) := Lib.hid (by have := Blk.new (W.alloc (.cells #[.slice ta tl tc, .slice oa ol oc] 49)) #[.slice none 0 0, .slice none 0 0, .int .i64 0] 53; rwa [show (W.alloc (.cells #[.slice ta tl tc, .slice oa ol oc] 49)).heap.size = W.heap.size + 1 by simp] at this)
  clear hT hO hw hl hR
  go_enter Try.func22, Try.ntmps22
  go_wp2_with (go_at_call 50; refine HLE.out.mono ?_; rintro e w2 ⟨lv, rfl, hol, hcl⟩; rw [HR.out] at hol ⊢; have HOL := Lib.hid hol; have HC2 := Lib.hid hcl; have HBR := Lib.hid (HBR.out.keep hcl (by simp)); have HBX := Lib.hid (HBX.out.keep hcl (by simp)); have r0 := HBR.out.free 0; have r1 := HBR.out.free 1; have r2 := HBR.out.free 2; have q0 := HBR.out.cell (o := 0) rfl; have q1 := HBR.out.cell (o := 1) rfl; have q2 := HBR.out.cell (o := 2) rfl; clear hol hcl)
  refine bodyPost_ret (results_row_tmp rfl _ _ (W.heap.size + 1) 53 #[.slice none 0 0, .slice none 0 0, .int .i64 0] (0, 0) _ rfl (((HBR.out.set 0 (.slice none 0 0)).set 1 (.slice none 0 0)).set 2 (.int .i64 0)) Try.underlying53 rfl szLayout) rfl ⟨rfl, ?_⟩
  exact (((HCA.out.trans HC2.out).setCell (p := ⟨W.heap.size + 1, 0, none⟩) (.inr (by simp)) _).setCell (p := ⟨W.heap.size + 1, 1, none⟩) (.inr (by simp)) _).setCell (p := ⟨W.heap.size + 1, 2, none⟩) (.inr (by simp)) _
set_option maxHeartbeats 4000000 in
theorem Of_room (ta : Option Addr) (tl tc : Nat) (oa : Option Addr) (ol oc : Nat) (ts : List Tk) (os : List Ob) (W : World) (hT : ReadsT W (.slice ta tl tc) ts) (hO : ReadsO W (.slice oa ol oc) os) (hw : ∀ o ∈ os, o.W) (hl : ts.length ≤ 1000 ∧ os.length ≤ 1000) (hR : lensOk ts os = true) (hS : ¬ sumI (lensL ts os) ≤ 4096) :
    Calls Try.prog 22 #[.agg #[.slice ta tl tc, .slice oa ol oc]] W fun e W' => e = .returned (.tuple #[.agg #[.slice none 0 0, .slice none 0 0, .int .i64 0], .int .i64 6]) ∧ Chg [] W W' := by
  have HCA : Hid (Chg [] W ((W.alloc (.cells #[.slice ta tl tc, .slice oa ol oc] 49)).alloc (.cells #[.slice none 0 0, .slice none 0 0, .int .i64 0] 53))) := Lib.hid (((Chg.refl _ _).alloc _).alloc _)
  have HLE := Lib.hid (lens_any ta tl tc oa ol oc ts os ((W.alloc (.cells #[.slice ta tl tc, .slice oa ol oc] 49)).alloc (.cells #[.slice none 0 0, .slice none 0 0, .int .i64 0] 53)) (hT.chg HCA.out) (hO.chg HCA.out) hw hl)
  have HR := Lib.hid hR
  have hnn := lens_nonneg hR
  have hln := lensL_length ts os
  have htl : tl = ts.length := by obtain ⟨_, _, he, _⟩ := reads_slice hT.1; simp at he; exact he.2.1
  subst htl
  obtain ⟨zs, hzs⟩ : ∃ zs, lensL ts os = zs := ⟨_, rfl⟩
  rw [hzs] at hnn hln HLE hS
  have HLN : Hid (zs.length = ts.length + os.length ∧ ts.length ≤ 1000 ∧ os.length ≤ 1000) := Lib.hid ⟨hln, hl⟩
  have HZN := Lib.hid hnn
  have HS := Lib.hid hS
  have HZS := Lib.hid hzs
  have HCU : Hid (∀ V lv, OwnI V ((W.alloc (.cells #[.slice ta ts.length tc, .slice oa ol oc] 49)).alloc (.cells #[.slice none 0 0, .slice none 0 0, .int .i64 0] 53)).heap.size lv zs → Calls Try.prog 51 #[.int .i64 4096, lv] V fun e W' => ∃ v', e = .returned (.tuple #[v', .int .i64 (if sumI zs ≤ 4096 then 0 else 6)]) ∧ OwnR W' V.heap.size v' (if sumI zs ≤ 4096 then cutL 0 zs else []) ∧ Chg [] V W') := Lib.hid (fun V lv h => Cut_any lv zs V h.reads (by omega) hnn)
  have HBX : Hid (Blk ((W.alloc (.cells #[.slice ta ts.length tc, .slice oa ol oc] 49)).alloc (.cells #[.slice none 0 0, .slice none 0 0, .int .i64 0] 53)) W.heap.size #[.slice ta ts.length tc, .slice oa ol oc] 49) := Lib.hid ((Blk.new W _ _).alloc _)
  have HBR : Hid (Blk ((W.alloc (.cells #[.slice ta ts.length tc, .slice oa ol oc] 49)).alloc (.cells #[.slice none 0 0, .slice none 0 0, .int .i64 0] 53)) (W.heap.size + 1) #[.slice none 0 0, .slice none 0 0, .int .i64 0] 53) := Lib.hid (by have := Blk.new (W.alloc (.cells #[.slice ta ts.length tc, .slice oa ol oc] 49)) #[.slice none 0 0, .slice none 0 0, .int .i64 0] 53; rwa [show (W.alloc (.cells #[.slice ta ts.length tc, .slice oa ol oc] 49)).heap.size = W.heap.size + 1 by simp] at this)
  clear hT hO hw hl hR hS hzs hnn hln
  go_enter Try.func22, Try.ntmps22
  go_wp2_with (first | (go_at_call 50; refine HLE.out.mono ?_; rintro e w2 ⟨lv, rfl, hol, hcl⟩; rw [HR.out] at hol ⊢; simp only [if_true] at hol; have HOL := Lib.hid hol; have HC2 := Lib.hid hcl; have HBR := Lib.hid (HBR.out.keep hcl (by simp)); have HBX := Lib.hid (HBX.out.keep hcl (by simp)); have r0 := HBR.out.free 0; have r1 := HBR.out.free 1; have r2 := HBR.out.free 2; have q0 := HBR.out.cell (o := 0) rfl; have q1 := HBR.out.cell (o := 1) rfl; have q2 := HBR.out.cell (o := 2) rfl; clear hol hcl) | (go_at_call 51; refine (HCU.out _ _ HOL.out).mono ?_; rintro e w3 ⟨rv, rfl, hor, hcr⟩; have hno : ¬ sumI zs ≤ 4096 := (by have := HS.out; omega); rw [if_neg hno] at hor; rw [if_neg hno]; clear hno; have HOR := Lib.hid hor; have HC3 := Lib.hid hcr; have HBR := Lib.hid (HBR.out.keep hcr (by simp)); have HBX := Lib.hid (HBX.out.keep hcr (by simp)); clear hor hcr q0 q1 q2; have q0 := HBR.out.cell (o := 0) rfl; have q1 := HBR.out.cell (o := 1) rfl; have q2 := HBR.out.cell (o := 2) rfl; have r0 := HBR.out.free 0; have r1 := HBR.out.free 1; have r2 := HBR.out.free 2))
  refine bodyPost_ret (results_row_tmp rfl _ _ (W.heap.size + 1) 53 #[.slice none 0 0, .slice none 0 0, .int .i64 0] (0, 0) _ rfl (((HBR.out.set 0 (.slice none 0 0)).set 1 (.slice none 0 0)).set 2 (.int .i64 0)) Try.underlying53 rfl szLayout) rfl ⟨rfl, ?_⟩
  exact (((HCA.out.trans (HC2.out.trans HC3.out)).setCell (p := ⟨W.heap.size + 1, 0, none⟩) (.inr (by simp)) _).setCell (p := ⟨W.heap.size + 1, 1, none⟩) (.inr (by simp)) _).setCell (p := ⟨W.heap.size + 1, 2, none⟩) (.inr (by simp)) _
end Go.Proofs.Ytjplamoofkcojaa.lay
