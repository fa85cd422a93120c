/- Images: two tasks, two objects: are they the same. -/
import Derived.Test.YtkmalnojkjmjiaaImgK
namespace Go.Proofs.Ytkmalnojkjmjiaa.img
open Go Go.RowKit Go.Proofs.Ytkmalnojkjmjiaa.kit Go.Proofs.Ytkmalnojkjmjiaa.obj Go.Proofs.Ytkmalnojkjmjiaa.mem Go.Proofs.Ytkmalnojkjmjiaa.lay Go.Proofs.Ytkmalnojkjmjiaa.codec
set_option linter.unusedVariables false
set_option linter.unusedSimpArgs false
set_option maxRecDepth 20000
instance tkDec : DecidableEq PTk := fun x y => decidable_of_iff (x.kind = y.kind ∧ x.prio = y.prio ∧ x.period = y.period ∧ x.offset = y.offset ∧ x.deadline = y.deadline ∧ x.own = y.own ∧ x.code = y.code) (by cases x; cases y; simp)
instance obDec : DecidableEq POb := fun x y => decidable_of_iff (x.k = y.k ∧ x.w = y.w ∧ x.s = y.s ∧ x.c = y.c ∧ x.st = y.st ∧ x.wr = y.wr ∧ x.ini = y.ini ∧ x.rds = y.rds) (by cases x; cases y; simp)
set_option maxHeartbeats 4000000 in
theorem plTask_any (p0 p1 p2 p3 p4 p5 : Int) (a1 : Option Addr) (c1 : Nat) (l1 : List Ins) (q0 q1 q2 q3 q4 q5 : Int) (a2 : Option Addr) (c2 : Nat) (l2 : List Ins) (W : World) (h1 : ReadsC W (.slice a1 l1.length c1) l1) (h2 : ReadsC W (.slice a2 l2.length c2) l2) (hl : l1.length ≤ 1000 ∧ l2.length ≤ 1000) :
    Calls Try.prog 26 #[.agg #[.int .i64 p0, .int .i64 p1, .int .i64 p2, .int .i64 p3, .int .i64 p4, .int .i64 p5, .slice a1 l1.length c1], .agg #[.int .i64 q0, .int .i64 q1, .int .i64 q2, .int .i64 q3, .int .i64 q4, .int .i64 q5, .slice a2 l2.length c2]] W fun e W' => e = .returned (.bool (decide ((⟨p0, p1, p2, p3, p4, p5, l1⟩ : PTk) = ⟨q0, q1, q2, q3, q4, q5, l2⟩))) ∧ Chg [] W W' := by
  have HCA : Hid (Chg [] W ((W.alloc (.cells #[.int .i64 p0, .int .i64 p1, .int .i64 p2, .int .i64 p3, .int .i64 p4, .int .i64 p5, .slice a1 l1.length c1] 41)).alloc (.cells #[.int .i64 q0, .int .i64 q1, .int .i64 q2, .int .i64 q3, .int .i64 q4, .int .i64 q5, .slice a2 l2.length c2] 41))) := Lib.hid (((Chg.refl _ _).alloc _).alloc _)
  have HC := Lib.hid (Code_any _ _ l1 l2 ((W.alloc (.cells #[.int .i64 p0, .int .i64 p1, .int .i64 p2, .int .i64 p3, .int .i64 p4, .int .i64 p5, .slice a1 l1.length c1] 41)).alloc (.cells #[.int .i64 q0, .int .i64 q1, .int .i64 q2, .int .i64 q3, .int .i64 q4, .int .i64 q5, .slice a2 l2.length c2] 41)) (h1.chg HCA.out) (h2.chg HCA.out) (by omega) (by omega))
  clear h1 h2 hl
  by_cases h0 : p0 = q0
  rotate_left
  · have hb0 : (p0 == q0) = false := by simpa using h0
    rw [decide_eq_false (fun h => h0 (congrArg PTk.kind h))]
    clear h0
    go_enter Try.func26, Try.ntmps26
    go_wp2_with fail
    go_ret
    exact ⟨rfl, HCA.out⟩
  subst h0
  by_cases h1 : p1 = q1
  rotate_left
  · have hb1 : (p1 == q1) = false := by simpa using h1
    rw [decide_eq_false (fun h => h1 (congrArg PTk.prio h))]
    clear h1
    go_enter Try.func26, Try.ntmps26
    go_wp2_with fail
    go_ret
    exact ⟨rfl, HCA.out⟩
  subst h1
  by_cases h2 : p2 = q2
  rotate_left
  · have hb2 : (p2 == q2) = false := by simpa using h2
    rw [decide_eq_false (fun h => h2 (congrArg PTk.period h))]
    clear h2
    go_enter Try.func26, Try.ntmps26
    go_wp2_with fail
    go_ret
    exact ⟨rfl, HCA.out⟩
  subst h2
  by_cases h3 : p3 = q3
  rotate_left
  · have hb3 : (p3 == q3) = false := by simpa using h3
    rw [decide_eq_false (fun h => h3 (congrArg PTk.offset h))]
    clear h3
    go_enter Try.func26, Try.ntmps26
    go_wp2_with fail
    go_ret
    exact ⟨rfl, HCA.out⟩
  subst h3
  by_cases h4 : p4 = q4
  rotate_left
  · have hb4 : (p4 == q4) = false := by simpa using h4
    rw [decide_eq_false (fun h => h4 (congrArg PTk.deadline h))]
    clear h4
    go_enter Try.func26, Try.ntmps26
    go_wp2_with fail
    go_ret
    exact ⟨rfl, HCA.out⟩
  subst h4
  by_cases h5 : p5 = q5
  rotate_left
  · have hb5 : (p5 == q5) = false := by simpa using h5
    rw [decide_eq_false (fun h => h5 (congrArg PTk.own h))]
    clear h5
    go_enter Try.func26, Try.ntmps26
    go_wp2_with fail
    go_ret
    exact ⟨rfl, HCA.out⟩
  subst h5
  have hv : decide ((⟨p0, p1, p2, p3, p4, p5, l1⟩ : PTk) = ⟨p0, p1, p2, p3, p4, p5, l2⟩) = codeB l1 l2 := by unfold codeB; rw [decide_eq_decide]; simp
  rw [hv]
  generalize codeB l1 l2 = B at *
  clear hv
  go_enter Try.func26, Try.ntmps26
  go_wp2_with (go_at_call 42; refine HC.out.mono ?_; rintro e w1 ⟨rfl, nq, rfl⟩)
  go_ret
  exact ⟨rfl, HCA.out.drewN _⟩
set_option maxHeartbeats 4000000 in
theorem plObject_any (p0 p1 p2 p3 p4 p5 : Int) (a1 : Option Addr) (c1 : Nat) (l1 : List Int) (b1 : Option Addr) (e1 : Nat) (r1 : List Int) (q0 q1 q2 q3 q4 q5 : Int) (a2 : Option Addr) (c2 : Nat) (l2 : List Int) (b2 : Option Addr) (e2 : Nat) (r2 : List Int) (W : World) (h1 : ReadsW W (.slice a1 l1.length c1) l1) (h2 : ReadsW W (.slice a2 l2.length c2) l2) (h3 : ReadsN W (.slice b1 r1.length e1) r1) (h4 : ReadsN W (.slice b2 r2.length e2) r2) (hl : (l1.length ≤ 1000 ∧ l2.length ≤ 1000) ∧ r1.length ≤ 1000 ∧ r2.length ≤ 1000) :
    Calls Try.prog 27 #[.agg #[.int .i64 p0, .int .i64 p1, .int .i64 p2, .int .i64 p3, .int .u32 p4, .slice a1 l1.length c1, .int .i64 p5, .slice b1 r1.length e1], .agg #[.int .i64 q0, .int .i64 q1, .int .i64 q2, .int .i64 q3, .int .u32 q4, .slice a2 l2.length c2, .int .i64 q5, .slice b2 r2.length e2]] W fun e W' => e = .returned (.bool (decide ((⟨p0, p1, p2, p3, p4, p5, l1, r1⟩ : POb) = (⟨q0, q1, q2, q3, q4, q5, l2, r2⟩ : POb)))) ∧ Chg [] W W' := by
  have HCA : Hid (Chg [] W ((W.alloc (.cells #[.int .i64 p0, .int .i64 p1, .int .i64 p2, .int .i64 p3, .int .u32 p4, .slice a1 l1.length c1, .int .i64 p5, .slice b1 r1.length e1] 53)).alloc (.cells #[.int .i64 q0, .int .i64 q1, .int .i64 q2, .int .i64 q3, .int .u32 q4, .slice a2 l2.length c2, .int .i64 q5, .slice b2 r2.length e2] 53))) := Lib.hid (((Chg.refl _ _).alloc _).alloc _)
  have HBX : Hid (Blk ((W.alloc (.cells #[.int .i64 p0, .int .i64 p1, .int .i64 p2, .int .i64 p3, .int .u32 p4, .slice a1 l1.length c1, .int .i64 p5, .slice b1 r1.length e1] 53)).alloc (.cells #[.int .i64 q0, .int .i64 q1, .int .i64 q2, .int .i64 q3, .int .u32 q4, .slice a2 l2.length c2, .int .i64 q5, .slice b2 r2.length e2] 53)) W.heap.size #[.int .i64 p0, .int .i64 p1, .int .i64 p2, .int .i64 p3, .int .u32 p4, .slice a1 l1.length c1, .int .i64 p5, .slice b1 r1.length e1] 53) := Lib.hid ((Blk.new W _ _).alloc _)
  have HBY : Hid (Blk ((W.alloc (.cells #[.int .i64 p0, .int .i64 p1, .int .i64 p2, .int .i64 p3, .int .u32 p4, .slice a1 l1.length c1, .int .i64 p5, .slice b1 r1.length e1] 53)).alloc (.cells #[.int .i64 q0, .int .i64 q1, .int .i64 q2, .int .i64 q3, .int .u32 q4, .slice a2 l2.length c2, .int .i64 q5, .slice b2 r2.length e2] 53)) (W.heap.size + 1) #[.int .i64 q0, .int .i64 q1, .int .i64 q2, .int .i64 q3, .int .u32 q4, .slice a2 l2.length c2, .int .i64 q5, .slice b2 r2.length e2] 53) := Lib.hid (by have := Blk.new (W.alloc (.cells #[.int .i64 p0, .int .i64 p1, .int .i64 p2, .int .i64 p3, .int .u32 p4, .slice a1 l1.length c1, .int .i64 p5, .slice b1 r1.length e1] 53)) #[.int .i64 q0, .int .i64 q1, .int .i64 q2, .int .i64 q3, .int .u32 q4, .slice a2 l2.length c2, .int .i64 q5, .slice b2 r2.length e2] 53; rwa [show (W.alloc (.cells #[.int .i64 p0, .int .i64 p1, .int .i64 p2, .int .i64 p3, .int .u32 p4, .slice a1 l1.length c1, .int .i64 p5, .slice b1 r1.length e1] 53)).heap.size = W.heap.size + 1 by simp] at this)
  have HW := Lib.hid (Words_any _ _ l1 l2 ((W.alloc (.cells #[.int .i64 p0, .int .i64 p1, .int .i64 p2, .int .i64 p3, .int .u32 p4, .slice a1 l1.length c1, .int .i64 p5, .slice b1 r1.length e1] 53)).alloc (.cells #[.int .i64 q0, .int .i64 q1, .int .i64 q2, .int .i64 q3, .int .u32 q4, .slice a2 l2.length c2, .int .i64 q5, .slice b2 r2.length e2] 53)) (h1.chg HCA.out) (h2.chg HCA.out) (by omega) (by omega))
  have HI := Lib.hid (fun V (h : Chg [] W V) => Ints_any _ _ r1 r2 V (h3.chg h) (h4.chg h) (by omega) (by omega))
  clear h1 h2 h3 h4 hl
  by_cases h0 : p0 = q0
  rotate_left
  · have hb0 : (p0 == q0) = false := by simpa using h0
    rw [decide_eq_false (fun h => h0 (congrArg POb.k h))]
    clear h0
    go_enter Try.func27, Try.ntmps27
    go_wp2_with fail
    go_ret
    exact ⟨rfl, HCA.out⟩
  subst h0
  by_cases h1 : p1 = q1
  rotate_left
  · have hb1 : (p1 == q1) = false := by simpa using h1
    rw [decide_eq_false (fun h => h1 (congrArg POb.w h))]
    clear h1
    go_enter Try.func27, Try.ntmps27
    go_wp2_with fail
    go_ret
    exact ⟨rfl, HCA.out⟩
  subst h1
  by_cases h2 : p2 = q2
  rotate_left
  · have hb2 : (p2 == q2) = false := by simpa using h2
    rw [decide_eq_false (fun h => h2 (congrArg POb.s h))]
    clear h2
    go_enter Try.func27, Try.ntmps27
    go_wp2_with fail
    go_ret
    exact ⟨rfl, HCA.out⟩
  subst h2
  by_cases h3 : p3 = q3
  rotate_left
  · have hb3 : (p3 == q3) = false := by simpa using h3
    rw [decide_eq_false (fun h => h3 (congrArg POb.c h))]
    clear h3
    go_enter Try.func27, Try.ntmps27
    go_wp2_with fail
    go_ret
    exact ⟨rfl, HCA.out⟩
  subst h3
  by_cases h4 : p4 = q4
  rotate_left
  · have hb4 : (p4 == q4) = false := by simpa using h4
    rw [decide_eq_false (fun h => h4 (congrArg POb.st h))]
    clear h4
    go_enter Try.func27, Try.ntmps27
    go_wp2_with fail
    go_ret
    exact ⟨rfl, HCA.out⟩
  subst h4
  obtain ⟨B1, hB1⟩ : ∃ B, wordsB l1 l2 = B := ⟨_, rfl⟩
  rw [hB1] at HW
  cases B1
  · have hne : ¬ l1 = l2 := of_decide_eq_false hB1
    rw [decide_eq_false (fun h => hne (congrArg POb.ini h))]
    clear hB1 hne
    go_enter Try.func27, Try.ntmps27
    go_wp2_with (go_at_call 43; refine HW.out.mono ?_; rintro e w1 ⟨rfl, hq⟩; have HCW := Lib.hid (HCA.out.quiet hq); have HCQ := Lib.hid (quiet_chg hq); have x6 := (HBX.out.keep HCQ.out (by simp)).cell (o := 6) rfl; have y6 := (HBY.out.keep HCQ.out (by simp)).cell (o := 6) rfl; have x7 := (HBX.out.keep HCQ.out (by simp)).cell (o := 7) rfl; have y7 := (HBY.out.keep HCQ.out (by simp)).cell (o := 7) rfl; clear hq)
    go_ret
    exact ⟨rfl, HCW.out⟩
  by_cases h5 : p5 = q5
  rotate_left
  · have hb5 : (p5 == q5) = false := by simpa using h5
    rw [decide_eq_false (fun h => h5 (congrArg POb.wr h))]
    clear h5 hB1
    go_enter Try.func27, Try.ntmps27
    go_wp2_with (go_at_call 43; refine HW.out.mono ?_; rintro e w1 ⟨rfl, hq⟩; have HCW := Lib.hid (HCA.out.quiet hq); have HCQ := Lib.hid (quiet_chg hq); have x6 := (HBX.out.keep HCQ.out (by simp)).cell (o := 6) rfl; have y6 := (HBY.out.keep HCQ.out (by simp)).cell (o := 6) rfl; have x7 := (HBX.out.keep HCQ.out (by simp)).cell (o := 7) rfl; have y7 := (HBY.out.keep HCQ.out (by simp)).cell (o := 7) rfl; clear hq)
    go_ret
    exact ⟨rfl, HCW.out⟩
  subst h5
  have hv : decide ((⟨p0, p1, p2, p3, p4, p5, l1, r1⟩ : POb) = (⟨p0, p1, p2, p3, p4, p5, l2, r2⟩ : POb)) = wordsB r1 r2 := by
    have h9 : l1 = l2 := of_decide_eq_true hB1
    unfold wordsB; rw [decide_eq_decide]; simp [h9]
  rw [hv]
  generalize wordsB r1 r2 = B at *
  clear hv hB1
  go_enter Try.func27, Try.ntmps27
  go_wp2_with (first | (go_at_call 43; refine HW.out.mono ?_; rintro e w1 ⟨rfl, hq⟩; have HCW := Lib.hid (HCA.out.quiet hq); have HCQ := Lib.hid (quiet_chg hq); have x6 := (HBX.out.keep HCQ.out (by simp)).cell (o := 6) rfl; have y6 := (HBY.out.keep HCQ.out (by simp)).cell (o := 6) rfl; have x7 := (HBX.out.keep HCQ.out (by simp)).cell (o := 7) rfl; have y7 := (HBY.out.keep HCQ.out (by simp)).cell (o := 7) rfl; clear hq) | (go_at_call 44; refine (HI.out _ HCW.out).mono ?_; rintro e w2 ⟨rfl, hq⟩; have HCI := Lib.hid (HCW.out.quiet hq); clear hq))
  go_ret
  exact ⟨rfl, HCI.out⟩
end Go.Proofs.Ytkmalnojkjmjiaa.img
