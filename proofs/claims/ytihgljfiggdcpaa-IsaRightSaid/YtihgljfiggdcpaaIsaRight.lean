/-
  coxswainlaw08.IsaRight returns true for every i: whether any instruction is right, where it leads, what it calls, looks at, and changes. No conditions.
-/
import Derived.Test.YtihgljfiggdcpaaRows
import Derived.WalkKit
import Derived.ProofKit
import Derived.OpenShut
import Derived.ShutString
import Derived.ChangeOld
import Derived.Below
import Derived.Test.YtihgljfiggdcpaaOpen
import Derived.Test.YtihgljfiggdcpaaIsaU
namespace Go.Proofs.Ytihgljfiggdcpaa.isaRight
open Go.ChangeShapes Go.WideShapes Go.ChangeAt Go.RowKit
open Go.ChangeMaps (open_string shut_string)
set_option linter.unusedVariables false
open Go.Proofs.Ytihgljfiggdcpaa.kit Go.Proofs.Ytihgljfiggdcpaa.codec Go.Proofs.Ytihgljfiggdcpaa.isa
def insA (op a b c n : Int) : Array Value := #[.int .i64 op, .int .i64 a, .int .i64 b, .int .i64 c, .int .u32 n]
set_option maxRecDepth 100000 in
set_option maxHeartbeats 4000000 in
theorem main (op a b c n : Int) (hn : (Lit.int .u32 n).wf = true) (w : World) :
    Calls Try.prog 7 #[.agg #[.int .i64 op, .int .i64 a, .int .i64 b, .int .i64 c, .int .u32 n]] w fun e w' => e = .returned (.bool true) ∧ Below w.heap.size w w' := by
  have tg := fun u => Target_any op a b c n hn u
  have cg := fun u => Calls_any op a b c n hn u
  have rg := fun u => Right_any op a b c n hn u
  have qg := fun u => rRight_any op a b c n hn u
  generalize hg : rightI ⟨op, a, b, c, n⟩ = g at *
  have HG := Lib.hid hg
  cases g
  · have UG := Lib.hid (fun u => Uses_no op a b c n hn hg u)
    have SG := Lib.hid (fun u => Sets_no op a b c n hn hg u)
    simp only [Bool.false_and] at tg cg
    simp only [if_neg (show ¬ (false = true) by decide)] at tg cg
    have TG := Lib.hid tg
    have CG := Lib.hid cg
    have RG := Lib.hid rg
    have QG := Lib.hid qg
    clear tg cg rg qg hg
    go_enter Try.func7, Try.ntmps7
    have HBX : Hid (Blk (w.alloc (.cells #[.int .i64 op, .int .i64 a, .int .i64 b, .int .i64 c, .int .u32 n] 60)) w.heap.size #[.int .i64 op, .int .i64 a, .int .i64 b, .int .i64 c, .int .u32 n] 60) := Lib.hid (Blk.new w _ _)
    have HCC : Hid (Chg [] w (w.alloc (.cells #[.int .i64 op, .int .i64 a, .int .i64 b, .int .i64 c, .int .u32 n] 60))) := Lib.hid ((Chg.refl _ _).alloc _)
    go_wp2_with (first | (go_at_call 31; refine (TG.out _).mono ?_; rintro e wx ⟨rfl, hcx⟩; have HBX := Lib.hid (Blk.keep HBX.out hcx (by simp)); have e0 := HBX.out.cell (o := 0) (v := .int .i64 op) rfl; have e1 := HBX.out.cell (o := 1) (v := .int .i64 a) rfl; have e2 := HBX.out.cell (o := 2) (v := .int .i64 b) rfl; have e3 := HBX.out.cell (o := 3) (v := .int .i64 c) rfl; have e4 := HBX.out.cell (o := 4) (v := .int .u32 n) rfl; have HCC := Lib.hid (HCC.out.trans hcx); clear hcx) | (go_at_call 32; refine (CG.out _).mono ?_; rintro e W0 ⟨rfl, hcx⟩; have HBX := Lib.hid (Blk.keep HBX.out hcx (by simp)); have e0 := HBX.out.cell (o := 0) (v := .int .i64 op) rfl; have e1 := HBX.out.cell (o := 1) (v := .int .i64 a) rfl; have e2 := HBX.out.cell (o := 2) (v := .int .i64 b) rfl; have e3 := HBX.out.cell (o := 3) (v := .int .i64 c) rfl; have e4 := HBX.out.cell (o := 4) (v := .int .u32 n) rfl; have HCC := Lib.hid (HCC.out.trans hcx); clear hcx))
    have hB0 : Blk W0 w.heap.size #[.int .i64 op, .int .i64 a, .int .i64 b, .int .i64 c, .int .u32 n] 60 := HBX.out
    have e0 : W0.cell? ⟨w.heap.size, 0, none⟩ = some (.int .i64 op) := hB0.cell rfl
    have e1 : W0.cell? ⟨w.heap.size, 1, none⟩ = some (.int .i64 a) := hB0.cell rfl
    have e2 : W0.cell? ⟨w.heap.size, 2, none⟩ = some (.int .i64 b) := hB0.cell rfl
    have e3 : W0.cell? ⟨w.heap.size, 3, none⟩ = some (.int .i64 c) := hB0.cell rfl
    have e4 : W0.cell? ⟨w.heap.size, 4, none⟩ = some (.int .u32 n) := hB0.cell rfl
    have KEEP := Lib.hid (fun (W : World) (h : Chg [] W0 W) => (⟨h.keep e0 (by simp), h.keep e1 (by simp), h.keep e2 (by simp), h.keep e3 (by simp), h.keep e4 (by simp), Lib.hid h⟩ : (fun W : World => W.cell? ⟨w.heap.size, 0, none⟩ = some (.int .i64 op) ∧ W.cell? ⟨w.heap.size, 1, none⟩ = some (.int .i64 a) ∧ W.cell? ⟨w.heap.size, 2, none⟩ = some (.int .i64 b) ∧ W.cell? ⟨w.heap.size, 3, none⟩ = some (.int .i64 c) ∧ W.cell? ⟨w.heap.size, 4, none⟩ = some (.int .u32 n) ∧ Hid (Chg [] W0 W)) W))
    clear e0 e1 e2 e3 e4 hB0
    have hHeld : (fun W : World => W.cell? ⟨w.heap.size, 0, none⟩ = some (.int .i64 op) ∧ W.cell? ⟨w.heap.size, 1, none⟩ = some (.int .i64 a) ∧ W.cell? ⟨w.heap.size, 2, none⟩ = some (.int .i64 b) ∧ W.cell? ⟨w.heap.size, 3, none⟩ = some (.int .i64 c) ∧ W.cell? ⟨w.heap.size, 4, none⟩ = some (.int .u32 n) ∧ Hid (Chg [] W0 W)) (World.drew W0) := KEEP.out _ (Chg.refl _ _).drew
    refine wp_region_plan (fun W : World => W.cell? ⟨w.heap.size, 0, none⟩ = some (.int .i64 op) ∧ W.cell? ⟨w.heap.size, 1, none⟩ = some (.int .i64 a) ∧ W.cell? ⟨w.heap.size, 2, none⟩ = some (.int .i64 b) ∧ W.cell? ⟨w.heap.size, 3, none⟩ = some (.int .i64 c) ∧ W.cell? ⟨w.heap.size, 4, none⟩ = some (.int .u32 n) ∧ Hid (Chg [] W0 W)) [(0, true, some 19), (2, true, some 21), (1, false, some 20), (3, false, some 22), (4, true, some 23)] (by kernel_rfl) (by kernel_rfl) (by kernel_rfl) (by kernel_rfl) (fun d c a v w h => by cases d <;> exact h) hHeld ?_
    repeat (first
      | (refine planWp_read (v := ?_) rfl rfl ?_ ?_ ?_; rotate_left; (focus rfl); (focus (intro u hSw; (try dsimp only at hSw); go_simp; (try with_reducible rfl))); (try simp only [Act.put, List.setIfInBounds_toArray, List.set_cons_zero, List.set_cons_succ]))
      | (refine planWp_skip rfl rfl ?_ ?_; (focus rfl); (try simp only [Act.put, List.setIfInBounds_toArray, List.set_cons_zero, List.set_cons_succ]))
      | (refine planWp_leave rfl rfl ?_ hHeld ?_; (focus rfl); (try simp only [Act.put, List.setIfInBounds_toArray, List.set_cons_zero, List.set_cons_succ]))
      | (refine planWp_do rfl rfl ?_ (fun K hK => ?_); (focus rfl); go_simp; (try go_wp2_with (first | (go_at_call 30; refine (RG.out _).mono ?_; rintro e wx ⟨rfl, hcx⟩; have HCX := Lib.hid hcx; clear hcx) | (go_at_call 33; refine (QG.out _).mono ?_; rintro e wx ⟨rfl, hcx⟩; have HCX := Lib.hid hcx; clear hcx))); refine hK.out _ _ ?_ (fun hHeld2 => ?_); (focus (have hcn := Chg.trans hHeld.2.2.2.2.2.out HCX.out; exact KEEP.out _ hcn)); clear hK K hHeld; have hHeld := hHeld2; clear hHeld2; (try simp only [Act.put, List.setIfInBounds_toArray, List.set_cons_zero, List.set_cons_succ])))
    refine planWp_nil ?_
    have HCC := Lib.hid (HCC.out.trans hHeld.2.2.2.2.2.out)
    have HBX := Lib.hid (Blk.keep HBX.out hHeld.2.2.2.2.2.out (by simp))
    obtain ⟨e0, e1, e2, e3, e4, _⟩ := hHeld
    clear KEEP
    go_wp2_with (first | (go_at_call 33; refine (QG.out _).mono ?_; rintro e wx ⟨rfl, hcx⟩; have HBX := Lib.hid (Blk.keep HBX.out hcx (by simp)); have e0 := HBX.out.cell (o := 0) (v := .int .i64 op) rfl; have e1 := HBX.out.cell (o := 1) (v := .int .i64 a) rfl; have e2 := HBX.out.cell (o := 2) (v := .int .i64 b) rfl; have e3 := HBX.out.cell (o := 3) (v := .int .i64 c) rfl; have e4 := HBX.out.cell (o := 4) (v := .int .u32 n) rfl; have HCC := Lib.hid (HCC.out.trans hcx); clear hcx) | (go_at_call 34; refine (UG.out _).mono ?_; rintro e wx ⟨rfl, hcx⟩; have HBX := Lib.hid (Blk.keep HBX.out hcx (by simp)); have e0 := HBX.out.cell (o := 0) (v := .int .i64 op) rfl; have e1 := HBX.out.cell (o := 1) (v := .int .i64 a) rfl; have e2 := HBX.out.cell (o := 2) (v := .int .i64 b) rfl; have e3 := HBX.out.cell (o := 3) (v := .int .i64 c) rfl; have e4 := HBX.out.cell (o := 4) (v := .int .u32 n) rfl; have HCC := Lib.hid (HCC.out.trans hcx); clear hcx) | (go_at_call 35; refine (SG.out _).mono ?_; rintro e wx ⟨rfl, hcx⟩; have HBX := Lib.hid (Blk.keep HBX.out hcx (by simp)); have e0 := HBX.out.cell (o := 0) (v := .int .i64 op) rfl; have e1 := HBX.out.cell (o := 1) (v := .int .i64 a) rfl; have e2 := HBX.out.cell (o := 2) (v := .int .i64 b) rfl; have e3 := HBX.out.cell (o := 3) (v := .int .i64 c) rfl; have e4 := HBX.out.cell (o := 4) (v := .int .u32 n) rfl; have HCC := Lib.hid (HCC.out.trans hcx); clear hcx) | (go_at_call 20; refine (awake_any _).mono ?_; rintro e wx ⟨rfl, hcx⟩; have HBX := Lib.hid (Blk.keep HBX.out hcx (by simp)); have e0 := HBX.out.cell (o := 0) (v := .int .i64 op) rfl; have e1 := HBX.out.cell (o := 1) (v := .int .i64 a) rfl; have e2 := HBX.out.cell (o := 2) (v := .int .i64 b) rfl; have e3 := HBX.out.cell (o := 3) (v := .int .i64 c) rfl; have e4 := HBX.out.cell (o := 4) (v := .int .u32 n) rfl; have HCC := Lib.hid (HCC.out.trans hcx); clear hcx))
    go_ret
    exact ⟨rfl, HCC.out.below⟩
  · obtain ⟨k, hk, rfl⟩ := right_in hg
    have HWR := wrap64_u32 hn
    have RG := Lib.hid rg
    have QG := Lib.hid qg
    have lg := fun u => rLeads_any k u
    have kg := fun u => rCalls_any k (by omega) u
    have ug := fun u => Uses_any k hk a b c n hn hg u
    have sg := fun u => Sets_any k hk a b c n hn hg u
    have ru := fun u => rUses_any k hk a b c n u
    have rs := fun u => rSets_any k hk a b c n u
    have ofu : ∀ (v : Value) (u : World), ReadsN u v (pickL (usesB k) a b c) → Calls Try.prog 38 #[v] u fun e w' => e = .returned (.int .u64 (setL (pickL (usesB k) a b c))) ∧ Chg [] u w' := fun v u hv =>
      (Ofs_any v _ u hv (by have := uses_short k hk a b c; omega) (regs_ok k hk a b c n hg _ (letters_uses k hk).2.2)).mono (by rintro e w' ⟨rfl, rfl⟩; exact ⟨by rw [of_set _ (uses_short k hk a b c) (regs_ok k hk a b c n hg _ (letters_uses k hk).2.2)], Chg.refl _ _⟩)
    have ofs : ∀ (v : Value) (u : World), ReadsN u v (pickL (setsB k) a b c) → Calls Try.prog 38 #[v] u fun e w' => e = .returned (.int .u64 (setL (pickL (setsB k) a b c))) ∧ Chg [] u w' := fun v u hv =>
      (Ofs_any v _ u hv (by have := sets_short k hk a b c; omega) (regs_ok k hk a b c n hg _ (letters_sets k hk).2.2)).mono (by rintro e w' ⟨rfl, rfl⟩; exact ⟨by rw [of_set _ (sets_short k hk a b c) (regs_ok k hk a b c n hg _ (letters_sets k hk).2.2)], Chg.refl _ _⟩)
    clear rg qg hg
    generalize pickL (usesB k) a b c = lu at *
    generalize pickL (setsB k) a b c = ls at *
    generalize setL lu = su at *
    generalize setL ls = ss at *
    have UG := Lib.hid ug
    have SG := Lib.hid sg
    have RU := Lib.hid ru
    have RS := Lib.hid rs
    have OFU := Lib.hid ofu
    have OFS := Lib.hid ofs
    clear ug sg ru rs ofu ofs
    by_cases hq : 0 < callI k
    · have hl : leadsI k = false := by
        unfold callI at hq
        by_cases h : 17 ≤ (k : Int) ∧ (k : Int) ≤ 20
        · simp [leadsI]; omega
        · rw [if_neg h] at hq; omega
      rw [hl] at tg lg
      rw [decide_eq_true hq] at cg
      generalize callI k = m at *
      have hmq : decide (0 < m) = true := by simpa using hq
      have TG : Hid (∀ u, Calls Try.prog 31 #[.agg #[.int .i64 k, .int .i64 a, .int .i64 b, .int .i64 c, .int .u32 n]] u fun e w' => e = .returned (.tuple #[.int .i64 0, .bool false]) ∧ Chg [] u w') := Lib.hid tg
      have CG : Hid (∀ u, Calls Try.prog 32 #[.agg #[.int .i64 k, .int .i64 a, .int .i64 b, .int .i64 c, .int .u32 n]] u fun e w' => e = .returned (.tuple #[.int .i64 b, .int .i64 m, .bool true]) ∧ Chg [] u w') := Lib.hid cg
      have LG := Lib.hid lg
      have KG := Lib.hid kg
      clear tg cg lg kg hl
      go_enter Try.func7, Try.ntmps7
      have HBX : Hid (Blk (w.alloc (.cells #[.int .i64 k, .int .i64 a, .int .i64 b, .int .i64 c, .int .u32 n] 60)) w.heap.size #[.int .i64 k, .int .i64 a, .int .i64 b, .int .i64 c, .int .u32 n] 60) := Lib.hid (Blk.new w _ _)
      have HCC : Hid (Chg [] w (w.alloc (.cells #[.int .i64 k, .int .i64 a, .int .i64 b, .int .i64 c, .int .u32 n] 60))) := Lib.hid ((Chg.refl _ _).alloc _)
      go_wp2_with (first | (go_at_call 31; refine (TG.out _).mono ?_; rintro e wx ⟨rfl, hcx⟩; have HBX := Lib.hid (Blk.keep HBX.out hcx (by simp)); have e0 := HBX.out.cell (o := 0) (v := .int .i64 k) rfl; have e1 := HBX.out.cell (o := 1) (v := .int .i64 a) rfl; have e2 := HBX.out.cell (o := 2) (v := .int .i64 b) rfl; have e3 := HBX.out.cell (o := 3) (v := .int .i64 c) rfl; have e4 := HBX.out.cell (o := 4) (v := .int .u32 n) rfl; have HCC := Lib.hid (HCC.out.trans hcx); clear hcx) | (go_at_call 32; refine (CG.out _).mono ?_; rintro e W0 ⟨rfl, hcx⟩; have HBX := Lib.hid (Blk.keep HBX.out hcx (by simp)); have e0 := HBX.out.cell (o := 0) (v := .int .i64 k) rfl; have e1 := HBX.out.cell (o := 1) (v := .int .i64 a) rfl; have e2 := HBX.out.cell (o := 2) (v := .int .i64 b) rfl; have e3 := HBX.out.cell (o := 3) (v := .int .i64 c) rfl; have e4 := HBX.out.cell (o := 4) (v := .int .u32 n) rfl; have HCC := Lib.hid (HCC.out.trans hcx); clear hcx))
      have hB0 : Blk W0 w.heap.size #[.int .i64 k, .int .i64 a, .int .i64 b, .int .i64 c, .int .u32 n] 60 := HBX.out
      have e0 : W0.cell? ⟨w.heap.size, 0, none⟩ = some (.int .i64 k) := hB0.cell rfl
      have e1 : W0.cell? ⟨w.heap.size, 1, none⟩ = some (.int .i64 a) := hB0.cell rfl
      have e2 : W0.cell? ⟨w.heap.size, 2, none⟩ = some (.int .i64 b) := hB0.cell rfl
      have e3 : W0.cell? ⟨w.heap.size, 3, none⟩ = some (.int .i64 c) := hB0.cell rfl
      have e4 : W0.cell? ⟨w.heap.size, 4, none⟩ = some (.int .u32 n) := hB0.cell rfl
      have KEEP := Lib.hid (fun (W : World) (h : Chg [] W0 W) => (⟨h.keep e0 (by simp), h.keep e1 (by simp), h.keep e2 (by simp), h.keep e3 (by simp), h.keep e4 (by simp), Lib.hid h⟩ : (fun W : World => W.cell? ⟨w.heap.size, 0, none⟩ = some (.int .i64 k) ∧ W.cell? ⟨w.heap.size, 1, none⟩ = some (.int .i64 a) ∧ W.cell? ⟨w.heap.size, 2, none⟩ = some (.int .i64 b) ∧ W.cell? ⟨w.heap.size, 3, none⟩ = some (.int .i64 c) ∧ W.cell? ⟨w.heap.size, 4, none⟩ = some (.int .u32 n) ∧ Hid (Chg [] W0 W)) W))
      clear e0 e1 e2 e3 e4 hB0
      have hHeld : (fun W : World => W.cell? ⟨w.heap.size, 0, none⟩ = some (.int .i64 k) ∧ W.cell? ⟨w.heap.size, 1, none⟩ = some (.int .i64 a) ∧ W.cell? ⟨w.heap.size, 2, none⟩ = some (.int .i64 b) ∧ W.cell? ⟨w.heap.size, 3, none⟩ = some (.int .i64 c) ∧ W.cell? ⟨w.heap.size, 4, none⟩ = some (.int .u32 n) ∧ Hid (Chg [] W0 W)) (World.drew W0) := KEEP.out _ (Chg.refl _ _).drew
      refine wp_region_plan (fun W : World => W.cell? ⟨w.heap.size, 0, none⟩ = some (.int .i64 k) ∧ W.cell? ⟨w.heap.size, 1, none⟩ = some (.int .i64 a) ∧ W.cell? ⟨w.heap.size, 2, none⟩ = some (.int .i64 b) ∧ W.cell? ⟨w.heap.size, 3, none⟩ = some (.int .i64 c) ∧ W.cell? ⟨w.heap.size, 4, none⟩ = some (.int .u32 n) ∧ Hid (Chg [] W0 W)) [(0, true, some 19), (2, true, some 21), (1, false, some 20), (3, false, some 22), (4, true, some 23)] (by kernel_rfl) (by kernel_rfl) (by kernel_rfl) (by kernel_rfl) (fun d c a v w h => by cases d <;> exact h) hHeld ?_
      repeat (first
        | (refine planWp_read (v := ?_) rfl rfl ?_ ?_ ?_; rotate_left; (focus rfl); (focus (intro u hSw; (try dsimp only at hSw); go_simp; (try with_reducible rfl))); (try simp only [Act.put, List.setIfInBounds_toArray, List.set_cons_zero, List.set_cons_succ]))
        | (refine planWp_skip rfl rfl ?_ ?_; (focus rfl); (try simp only [Act.put, List.setIfInBounds_toArray, List.set_cons_zero, List.set_cons_succ]))
        | (refine planWp_leave rfl rfl ?_ hHeld ?_; (focus rfl); (try simp only [Act.put, List.setIfInBounds_toArray, List.set_cons_zero, List.set_cons_succ]))
        | (refine planWp_do rfl rfl ?_ (fun K hK => ?_); (focus rfl); go_simp; (try go_wp2_with (first | (go_at_call 30; refine (RG.out _).mono ?_; rintro e wx ⟨rfl, hcx⟩; have HCX := Lib.hid hcx; clear hcx) | (go_at_call 33; refine (QG.out _).mono ?_; rintro e wx ⟨rfl, hcx⟩; have HCX := Lib.hid hcx; clear hcx))); refine hK.out _ _ ?_ (fun hHeld2 => ?_); (focus (have hcn := Chg.trans hHeld.2.2.2.2.2.out HCX.out; exact KEEP.out _ hcn)); clear hK K hHeld; have hHeld := hHeld2; clear hHeld2; (try simp only [Act.put, List.setIfInBounds_toArray, List.set_cons_zero, List.set_cons_succ])))
      refine planWp_nil ?_
      have HCC := Lib.hid (HCC.out.trans hHeld.2.2.2.2.2.out)
      have HBX := Lib.hid (Blk.keep HBX.out hHeld.2.2.2.2.2.out (by simp))
      obtain ⟨e0, e1, e2, e3, e4, _⟩ := hHeld
      clear KEEP
      go_wp2_with (first | (go_at_call 33; refine (QG.out _).mono ?_; rintro e W1 ⟨rfl, hcx⟩; have HBX := Lib.hid (Blk.keep HBX.out hcx (by simp)); have e0 := HBX.out.cell (o := 0) (v := .int .i64 k) rfl; have e1 := HBX.out.cell (o := 1) (v := .int .i64 a) rfl; have e2 := HBX.out.cell (o := 2) (v := .int .i64 b) rfl; have e3 := HBX.out.cell (o := 3) (v := .int .i64 c) rfl; have e4 := HBX.out.cell (o := 4) (v := .int .u32 n) rfl; have HCC := Lib.hid (HCC.out.trans hcx); clear hcx) | (go_at_call 36; refine (LG.out _).mono ?_; rintro e wx ⟨rfl, rfl⟩) | (go_at_call 37; refine (KG.out _).mono ?_; rintro e wx ⟨rfl, rfl⟩))
      have hB0 : Blk W1 w.heap.size #[.int .i64 k, .int .i64 a, .int .i64 b, .int .i64 c, .int .u32 n] 60 := HBX.out
      have e0 : W1.cell? ⟨w.heap.size, 0, none⟩ = some (.int .i64 k) := hB0.cell rfl
      have e1 : W1.cell? ⟨w.heap.size, 1, none⟩ = some (.int .i64 a) := hB0.cell rfl
      have e2 : W1.cell? ⟨w.heap.size, 2, none⟩ = some (.int .i64 b) := hB0.cell rfl
      have e3 : W1.cell? ⟨w.heap.size, 3, none⟩ = some (.int .i64 c) := hB0.cell rfl
      have e4 : W1.cell? ⟨w.heap.size, 4, none⟩ = some (.int .u32 n) := hB0.cell rfl
      have KEEP := Lib.hid (fun (W : World) (h : Chg [] W1 W) => (⟨h.keep e0 (by simp), h.keep e1 (by simp), h.keep e2 (by simp), h.keep e3 (by simp), h.keep e4 (by simp), Lib.hid h⟩ : (fun W : World => W.cell? ⟨w.heap.size, 0, none⟩ = some (.int .i64 k) ∧ W.cell? ⟨w.heap.size, 1, none⟩ = some (.int .i64 a) ∧ W.cell? ⟨w.heap.size, 2, none⟩ = some (.int .i64 b) ∧ W.cell? ⟨w.heap.size, 3, none⟩ = some (.int .i64 c) ∧ W.cell? ⟨w.heap.size, 4, none⟩ = some (.int .u32 n) ∧ Hid (Chg [] W1 W)) W))
      clear e0 e1 e2 e3 e4 hB0
      have hHeld : (fun W : World => W.cell? ⟨w.heap.size, 0, none⟩ = some (.int .i64 k) ∧ W.cell? ⟨w.heap.size, 1, none⟩ = some (.int .i64 a) ∧ W.cell? ⟨w.heap.size, 2, none⟩ = some (.int .i64 b) ∧ W.cell? ⟨w.heap.size, 3, none⟩ = some (.int .i64 c) ∧ W.cell? ⟨w.heap.size, 4, none⟩ = some (.int .u32 n) ∧ Hid (Chg [] W1 W)) (World.drew W1) := KEEP.out _ (Chg.refl _ _).drew
      refine wp_region_plan (fun W : World => W.cell? ⟨w.heap.size, 0, none⟩ = some (.int .i64 k) ∧ W.cell? ⟨w.heap.size, 1, none⟩ = some (.int .i64 a) ∧ W.cell? ⟨w.heap.size, 2, none⟩ = some (.int .i64 b) ∧ W.cell? ⟨w.heap.size, 3, none⟩ = some (.int .i64 c) ∧ W.cell? ⟨w.heap.size, 4, none⟩ = some (.int .u32 n) ∧ Hid (Chg [] W1 W)) [(0, true, some 111), (2, true, some 113), (1, false, some 112), (3, false, some 114), (4, false, some 115), (5, true, some 116), (6, true, some 117), (7, true, some 118), (9, true, some 120), (8, false, some 119), (10, false, some 121), (11, false, some 122), (12, true, some 123), (13, true, some 124), (14, true, some 125), (15, false, some 126), (16, true, some 127), (17, true, some 2)] (by kernel_rfl) (by kernel_rfl) (by kernel_rfl) (by kernel_rfl) (fun d c a v w h => by cases d <;> exact h) hHeld ?_
      repeat (first
        | (refine planWp_read (v := ?_) rfl rfl ?_ ?_ ?_; rotate_left; (focus rfl); (focus (intro u hSw; (try dsimp only at hSw); go_simp; (try with_reducible rfl))); (try simp only [Act.put, List.setIfInBounds_toArray, List.set_cons_zero, List.set_cons_succ]))
        | (refine planWp_skip rfl rfl ?_ ?_; (focus rfl); (try simp only [Act.put, List.setIfInBounds_toArray, List.set_cons_zero, List.set_cons_succ]))
        | (refine planWp_leave rfl rfl ?_ hHeld ?_; (focus rfl); (try simp only [Act.put, List.setIfInBounds_toArray, List.set_cons_zero, List.set_cons_succ]))
        | (refine planWp_do rfl rfl ?_ (fun K hK => ?_); (focus rfl); go_simp; (try go_wp2_with (first | (go_at_call 34; refine (UG.out _).mono ?_; rintro e wx ⟨rfl, hcx⟩; have HCX := Lib.hid hcx; clear hcx) | (go_at_call 35; refine (SG.out _).mono ?_; rintro e wx ⟨rfl, hcx⟩; have HCX := Lib.hid hcx; clear hcx) | (go_at_call 39; refine (RU.out _).mono ?_; rintro e wx ⟨v, rfl, hv, hcx⟩; obtain ⟨av, cv, rfl, _⟩ := reads_slice hv; have HV := Lib.hid hv; have HCX := Lib.hid hcx; clear hv hcx) | (go_at_call 40; refine (RS.out _).mono ?_; rintro e wx ⟨v, rfl, hv, hcx⟩; obtain ⟨av, cv, rfl, _⟩ := reads_slice hv; have HV := Lib.hid hv; have HCX := Lib.hid hcx; clear hv hcx) | (go_at_call 38; (first | refine (OFU.out _ _ HV.out).mono ?_ | refine (OFS.out _ _ HV.out).mono ?_); rintro e wx ⟨rfl, hcx⟩; have HCX := Lib.hid hcx; clear hcx) | (go_at_call 20; refine (awake_any _).mono ?_; rintro e wx ⟨rfl, hcx⟩; have HCX := Lib.hid hcx; clear hcx))); refine hK.out _ _ ?_ (fun hHeld2 => ?_); (focus (have hcn := Chg.trans hHeld.2.2.2.2.2.out HCX.out; exact KEEP.out _ hcn)); clear hK K hHeld; have hHeld := hHeld2; clear hHeld2; (try simp only [Act.put, List.setIfInBounds_toArray, List.set_cons_zero, List.set_cons_succ])))
      refine planWp_nil ?_
      have HCC := Lib.hid (HCC.out.trans hHeld.2.2.2.2.2.out)
      clear hHeld KEEP
      go_wp2_with fail
      go_ret
      exact ⟨rfl, HCC.out.below⟩
    · have hm0 : callI k = 0 := by
        unfold callI at hq ⊢
        by_cases h : 17 ≤ (k : Int) ∧ (k : Int) ≤ 20
        · rw [if_pos h] at hq; omega
        · exact if_neg h
      rw [hm0] at kg cg
      have CG : Hid (∀ u, Calls Try.prog 32 #[.agg #[.int .i64 k, .int .i64 a, .int .i64 b, .int .i64 c, .int .u32 n]] u fun e w' => e = .returned (.tuple #[.int .i64 0, .int .i64 0, .bool false]) ∧ Chg [] u w') := Lib.hid cg
      have KG := Lib.hid kg
      clear hm0 hq cg kg
      generalize leadsI k = l at *
      cases l
      · have TG : Hid (∀ u, Calls Try.prog 31 #[.agg #[.int .i64 k, .int .i64 a, .int .i64 b, .int .i64 c, .int .u32 n]] u fun e w' => e = .returned (.tuple #[.int .i64 0, .bool false]) ∧ Chg [] u w') := Lib.hid tg
        have LG := Lib.hid lg
        clear tg lg
        go_enter Try.func7, Try.ntmps7
        have HBX : Hid (Blk (w.alloc (.cells #[.int .i64 k, .int .i64 a, .int .i64 b, .int .i64 c, .int .u32 n] 60)) w.heap.size #[.int .i64 k, .int .i64 a, .int .i64 b, .int .i64 c, .int .u32 n] 60) := Lib.hid (Blk.new w _ _)
        have HCC : Hid (Chg [] w (w.alloc (.cells #[.int .i64 k, .int .i64 a, .int .i64 b, .int .i64 c, .int .u32 n] 60))) := Lib.hid ((Chg.refl _ _).alloc _)
        go_wp2_with (first | (go_at_call 31; refine (TG.out _).mono ?_; rintro e wx ⟨rfl, hcx⟩; have HBX := Lib.hid (Blk.keep HBX.out hcx (by simp)); have e0 := HBX.out.cell (o := 0) (v := .int .i64 k) rfl; have e1 := HBX.out.cell (o := 1) (v := .int .i64 a) rfl; have e2 := HBX.out.cell (o := 2) (v := .int .i64 b) rfl; have e3 := HBX.out.cell (o := 3) (v := .int .i64 c) rfl; have e4 := HBX.out.cell (o := 4) (v := .int .u32 n) rfl; have HCC := Lib.hid (HCC.out.trans hcx); clear hcx) | (go_at_call 32; refine (CG.out _).mono ?_; rintro e W0 ⟨rfl, hcx⟩; have HBX := Lib.hid (Blk.keep HBX.out hcx (by simp)); have e0 := HBX.out.cell (o := 0) (v := .int .i64 k) rfl; have e1 := HBX.out.cell (o := 1) (v := .int .i64 a) rfl; have e2 := HBX.out.cell (o := 2) (v := .int .i64 b) rfl; have e3 := HBX.out.cell (o := 3) (v := .int .i64 c) rfl; have e4 := HBX.out.cell (o := 4) (v := .int .u32 n) rfl; have HCC := Lib.hid (HCC.out.trans hcx); clear hcx))
        have hB0 : Blk W0 w.heap.size #[.int .i64 k, .int .i64 a, .int .i64 b, .int .i64 c, .int .u32 n] 60 := HBX.out
        have e0 : W0.cell? ⟨w.heap.size, 0, none⟩ = some (.int .i64 k) := hB0.cell rfl
        have e1 : W0.cell? ⟨w.heap.size, 1, none⟩ = some (.int .i64 a) := hB0.cell rfl
        have e2 : W0.cell? ⟨w.heap.size, 2, none⟩ = some (.int .i64 b) := hB0.cell rfl
        have e3 : W0.cell? ⟨w.heap.size, 3, none⟩ = some (.int .i64 c) := hB0.cell rfl
        have e4 : W0.cell? ⟨w.heap.size, 4, none⟩ = some (.int .u32 n) := hB0.cell rfl
        have KEEP := Lib.hid (fun (W : World) (h : Chg [] W0 W) => (⟨h.keep e0 (by simp), h.keep e1 (by simp), h.keep e2 (by simp), h.keep e3 (by simp), h.keep e4 (by simp), Lib.hid h⟩ : (fun W : World => W.cell? ⟨w.heap.size, 0, none⟩ = some (.int .i64 k) ∧ W.cell? ⟨w.heap.size, 1, none⟩ = some (.int .i64 a) ∧ W.cell? ⟨w.heap.size, 2, none⟩ = some (.int .i64 b) ∧ W.cell? ⟨w.heap.size, 3, none⟩ = some (.int .i64 c) ∧ W.cell? ⟨w.heap.size, 4, none⟩ = some (.int .u32 n) ∧ Hid (Chg [] W0 W)) W))
        clear e0 e1 e2 e3 e4 hB0
        have hHeld : (fun W : World => W.cell? ⟨w.heap.size, 0, none⟩ = some (.int .i64 k) ∧ W.cell? ⟨w.heap.size, 1, none⟩ = some (.int .i64 a) ∧ W.cell? ⟨w.heap.size, 2, none⟩ = some (.int .i64 b) ∧ W.cell? ⟨w.heap.size, 3, none⟩ = some (.int .i64 c) ∧ W.cell? ⟨w.heap.size, 4, none⟩ = some (.int .u32 n) ∧ Hid (Chg [] W0 W)) (World.drew W0) := KEEP.out _ (Chg.refl _ _).drew
        refine wp_region_plan (fun W : World => W.cell? ⟨w.heap.size, 0, none⟩ = some (.int .i64 k) ∧ W.cell? ⟨w.heap.size, 1, none⟩ = some (.int .i64 a) ∧ W.cell? ⟨w.heap.size, 2, none⟩ = some (.int .i64 b) ∧ W.cell? ⟨w.heap.size, 3, none⟩ = some (.int .i64 c) ∧ W.cell? ⟨w.heap.size, 4, none⟩ = some (.int .u32 n) ∧ Hid (Chg [] W0 W)) [(0, true, some 19), (2, true, some 21), (1, false, some 20), (3, false, some 22), (4, true, some 23)] (by kernel_rfl) (by kernel_rfl) (by kernel_rfl) (by kernel_rfl) (fun d c a v w h => by cases d <;> exact h) hHeld ?_
        repeat (first
          | (refine planWp_read (v := ?_) rfl rfl ?_ ?_ ?_; rotate_left; (focus rfl); (focus (intro u hSw; (try dsimp only at hSw); go_simp; (try with_reducible rfl))); (try simp only [Act.put, List.setIfInBounds_toArray, List.set_cons_zero, List.set_cons_succ]))
          | (refine planWp_skip rfl rfl ?_ ?_; (focus rfl); (try simp only [Act.put, List.setIfInBounds_toArray, List.set_cons_zero, List.set_cons_succ]))
          | (refine planWp_leave rfl rfl ?_ hHeld ?_; (focus rfl); (try simp only [Act.put, List.setIfInBounds_toArray, List.set_cons_zero, List.set_cons_succ]))
          | (refine planWp_do rfl rfl ?_ (fun K hK => ?_); (focus rfl); go_simp; (try go_wp2_with (first | (go_at_call 30; refine (RG.out _).mono ?_; rintro e wx ⟨rfl, hcx⟩; have HCX := Lib.hid hcx; clear hcx) | (go_at_call 33; refine (QG.out _).mono ?_; rintro e wx ⟨rfl, hcx⟩; have HCX := Lib.hid hcx; clear hcx))); refine hK.out _ _ ?_ (fun hHeld2 => ?_); (focus (have hcn := Chg.trans hHeld.2.2.2.2.2.out HCX.out; exact KEEP.out _ hcn)); clear hK K hHeld; have hHeld := hHeld2; clear hHeld2; (try simp only [Act.put, List.setIfInBounds_toArray, List.set_cons_zero, List.set_cons_succ])))
        refine planWp_nil ?_
        have HCC := Lib.hid (HCC.out.trans hHeld.2.2.2.2.2.out)
        have HBX := Lib.hid (Blk.keep HBX.out hHeld.2.2.2.2.2.out (by simp))
        obtain ⟨e0, e1, e2, e3, e4, _⟩ := hHeld
        clear KEEP
        go_wp2_with (first | (go_at_call 33; refine (QG.out _).mono ?_; rintro e W1 ⟨rfl, hcx⟩; have HBX := Lib.hid (Blk.keep HBX.out hcx (by simp)); have e0 := HBX.out.cell (o := 0) (v := .int .i64 k) rfl; have e1 := HBX.out.cell (o := 1) (v := .int .i64 a) rfl; have e2 := HBX.out.cell (o := 2) (v := .int .i64 b) rfl; have e3 := HBX.out.cell (o := 3) (v := .int .i64 c) rfl; have e4 := HBX.out.cell (o := 4) (v := .int .u32 n) rfl; have HCC := Lib.hid (HCC.out.trans hcx); clear hcx) | (go_at_call 36; refine (LG.out _).mono ?_; rintro e wx ⟨rfl, rfl⟩) | (go_at_call 37; refine (KG.out _).mono ?_; rintro e wx ⟨rfl, rfl⟩))
        have hB0 : Blk W1 w.heap.size #[.int .i64 k, .int .i64 a, .int .i64 b, .int .i64 c, .int .u32 n] 60 := HBX.out
        have e0 : W1.cell? ⟨w.heap.size, 0, none⟩ = some (.int .i64 k) := hB0.cell rfl
        have e1 : W1.cell? ⟨w.heap.size, 1, none⟩ = some (.int .i64 a) := hB0.cell rfl
        have e2 : W1.cell? ⟨w.heap.size, 2, none⟩ = some (.int .i64 b) := hB0.cell rfl
        have e3 : W1.cell? ⟨w.heap.size, 3, none⟩ = some (.int .i64 c) := hB0.cell rfl
        have e4 : W1.cell? ⟨w.heap.size, 4, none⟩ = some (.int .u32 n) := hB0.cell rfl
        have KEEP := Lib.hid (fun (W : World) (h : Chg [] W1 W) => (⟨h.keep e0 (by simp), h.keep e1 (by simp), h.keep e2 (by simp), h.keep e3 (by simp), h.keep e4 (by simp), Lib.hid h⟩ : (fun W : World => W.cell? ⟨w.heap.size, 0, none⟩ = some (.int .i64 k) ∧ W.cell? ⟨w.heap.size, 1, none⟩ = some (.int .i64 a) ∧ W.cell? ⟨w.heap.size, 2, none⟩ = some (.int .i64 b) ∧ W.cell? ⟨w.heap.size, 3, none⟩ = some (.int .i64 c) ∧ W.cell? ⟨w.heap.size, 4, none⟩ = some (.int .u32 n) ∧ Hid (Chg [] W1 W)) W))
        clear e0 e1 e2 e3 e4 hB0
        have hHeld : (fun W : World => W.cell? ⟨w.heap.size, 0, none⟩ = some (.int .i64 k) ∧ W.cell? ⟨w.heap.size, 1, none⟩ = some (.int .i64 a) ∧ W.cell? ⟨w.heap.size, 2, none⟩ = some (.int .i64 b) ∧ W.cell? ⟨w.heap.size, 3, none⟩ = some (.int .i64 c) ∧ W.cell? ⟨w.heap.size, 4, none⟩ = some (.int .u32 n) ∧ Hid (Chg [] W1 W)) (World.drew W1) := KEEP.out _ (Chg.refl _ _).drew
        refine wp_region_plan (fun W : World => W.cell? ⟨w.heap.size, 0, none⟩ = some (.int .i64 k) ∧ W.cell? ⟨w.heap.size, 1, none⟩ = some (.int .i64 a) ∧ W.cell? ⟨w.heap.size, 2, none⟩ = some (.int .i64 b) ∧ W.cell? ⟨w.heap.size, 3, none⟩ = some (.int .i64 c) ∧ W.cell? ⟨w.heap.size, 4, none⟩ = some (.int .u32 n) ∧ Hid (Chg [] W1 W)) [(0, true, some 111), (2, true, some 113), (1, false, some 112), (3, false, some 114), (4, false, some 115), (5, true, some 116), (6, true, some 117), (7, true, some 118), (9, true, some 120), (8, false, some 119), (10, false, some 121), (11, false, some 122), (12, true, some 123), (13, true, some 124), (14, true, some 125), (15, false, some 126), (16, true, some 127), (17, true, some 2)] (by kernel_rfl) (by kernel_rfl) (by kernel_rfl) (by kernel_rfl) (fun d c a v w h => by cases d <;> exact h) hHeld ?_
        repeat (first
          | (refine planWp_read (v := ?_) rfl rfl ?_ ?_ ?_; rotate_left; (focus rfl); (focus (intro u hSw; (try dsimp only at hSw); go_simp; (try with_reducible rfl))); (try simp only [Act.put, List.setIfInBounds_toArray, List.set_cons_zero, List.set_cons_succ]))
          | (refine planWp_skip rfl rfl ?_ ?_; (focus rfl); (try simp only [Act.put, List.setIfInBounds_toArray, List.set_cons_zero, List.set_cons_succ]))
          | (refine planWp_leave rfl rfl ?_ hHeld ?_; (focus rfl); (try simp only [Act.put, List.setIfInBounds_toArray, List.set_cons_zero, List.set_cons_succ]))
          | (refine planWp_do rfl rfl ?_ (fun K hK => ?_); (focus rfl); go_simp; (try go_wp2_with (first | (go_at_call 34; refine (UG.out _).mono ?_; rintro e wx ⟨rfl, hcx⟩; have HCX := Lib.hid hcx; clear hcx) | (go_at_call 35; refine (SG.out _).mono ?_; rintro e wx ⟨rfl, hcx⟩; have HCX := Lib.hid hcx; clear hcx) | (go_at_call 39; refine (RU.out _).mono ?_; rintro e wx ⟨v, rfl, hv, hcx⟩; obtain ⟨av, cv, rfl, _⟩ := reads_slice hv; have HV := Lib.hid hv; have HCX := Lib.hid hcx; clear hv hcx) | (go_at_call 40; refine (RS.out _).mono ?_; rintro e wx ⟨v, rfl, hv, hcx⟩; obtain ⟨av, cv, rfl, _⟩ := reads_slice hv; have HV := Lib.hid hv; have HCX := Lib.hid hcx; clear hv hcx) | (go_at_call 38; (first | refine (OFU.out _ _ HV.out).mono ?_ | refine (OFS.out _ _ HV.out).mono ?_); rintro e wx ⟨rfl, hcx⟩; have HCX := Lib.hid hcx; clear hcx) | (go_at_call 20; refine (awake_any _).mono ?_; rintro e wx ⟨rfl, hcx⟩; have HCX := Lib.hid hcx; clear hcx))); refine hK.out _ _ ?_ (fun hHeld2 => ?_); (focus (have hcn := Chg.trans hHeld.2.2.2.2.2.out HCX.out; exact KEEP.out _ hcn)); clear hK K hHeld; have hHeld := hHeld2; clear hHeld2; (try simp only [Act.put, List.setIfInBounds_toArray, List.set_cons_zero, List.set_cons_succ])))
        refine planWp_nil ?_
        have HCC := Lib.hid (HCC.out.trans hHeld.2.2.2.2.2.out)
        clear hHeld KEEP
        go_wp2_with fail
        go_ret
        exact ⟨rfl, HCC.out.below⟩
      · have TG : Hid (∀ u, Calls Try.prog 31 #[.agg #[.int .i64 k, .int .i64 a, .int .i64 b, .int .i64 c, .int .u32 n]] u fun e w' => e = .returned (.tuple #[.int .i64 n, .bool true]) ∧ Chg [] u w') := Lib.hid tg
        have LG := Lib.hid lg
        clear tg lg
        go_enter Try.func7, Try.ntmps7
        have HBX : Hid (Blk (w.alloc (.cells #[.int .i64 k, .int .i64 a, .int .i64 b, .int .i64 c, .int .u32 n] 60)) w.heap.size #[.int .i64 k, .int .i64 a, .int .i64 b, .int .i64 c, .int .u32 n] 60) := Lib.hid (Blk.new w _ _)
        have HCC : Hid (Chg [] w (w.alloc (.cells #[.int .i64 k, .int .i64 a, .int .i64 b, .int .i64 c, .int .u32 n] 60))) := Lib.hid ((Chg.refl _ _).alloc _)
        go_wp2_with (first | (go_at_call 31; refine (TG.out _).mono ?_; rintro e wx ⟨rfl, hcx⟩; have HBX := Lib.hid (Blk.keep HBX.out hcx (by simp)); have e0 := HBX.out.cell (o := 0) (v := .int .i64 k) rfl; have e1 := HBX.out.cell (o := 1) (v := .int .i64 a) rfl; have e2 := HBX.out.cell (o := 2) (v := .int .i64 b) rfl; have e3 := HBX.out.cell (o := 3) (v := .int .i64 c) rfl; have e4 := HBX.out.cell (o := 4) (v := .int .u32 n) rfl; have HCC := Lib.hid (HCC.out.trans hcx); clear hcx) | (go_at_call 32; refine (CG.out _).mono ?_; rintro e W0 ⟨rfl, hcx⟩; have HBX := Lib.hid (Blk.keep HBX.out hcx (by simp)); have e0 := HBX.out.cell (o := 0) (v := .int .i64 k) rfl; have e1 := HBX.out.cell (o := 1) (v := .int .i64 a) rfl; have e2 := HBX.out.cell (o := 2) (v := .int .i64 b) rfl; have e3 := HBX.out.cell (o := 3) (v := .int .i64 c) rfl; have e4 := HBX.out.cell (o := 4) (v := .int .u32 n) rfl; have HCC := Lib.hid (HCC.out.trans hcx); clear hcx))
        have hB0 : Blk W0 w.heap.size #[.int .i64 k, .int .i64 a, .int .i64 b, .int .i64 c, .int .u32 n] 60 := HBX.out
        have e0 : W0.cell? ⟨w.heap.size, 0, none⟩ = some (.int .i64 k) := hB0.cell rfl
        have e1 : W0.cell? ⟨w.heap.size, 1, none⟩ = some (.int .i64 a) := hB0.cell rfl
        have e2 : W0.cell? ⟨w.heap.size, 2, none⟩ = some (.int .i64 b) := hB0.cell rfl
        have e3 : W0.cell? ⟨w.heap.size, 3, none⟩ = some (.int .i64 c) := hB0.cell rfl
        have e4 : W0.cell? ⟨w.heap.size, 4, none⟩ = some (.int .u32 n) := hB0.cell rfl
        have KEEP := Lib.hid (fun (W : World) (h : Chg [] W0 W) => (⟨h.keep e0 (by simp), h.keep e1 (by simp), h.keep e2 (by simp), h.keep e3 (by simp), h.keep e4 (by simp), Lib.hid h⟩ : (fun W : World => W.cell? ⟨w.heap.size, 0, none⟩ = some (.int .i64 k) ∧ W.cell? ⟨w.heap.size, 1, none⟩ = some (.int .i64 a) ∧ W.cell? ⟨w.heap.size, 2, none⟩ = some (.int .i64 b) ∧ W.cell? ⟨w.heap.size, 3, none⟩ = some (.int .i64 c) ∧ W.cell? ⟨w.heap.size, 4, none⟩ = some (.int .u32 n) ∧ Hid (Chg [] W0 W)) W))
        clear e0 e1 e2 e3 e4 hB0
        have hHeld : (fun W : World => W.cell? ⟨w.heap.size, 0, none⟩ = some (.int .i64 k) ∧ W.cell? ⟨w.heap.size, 1, none⟩ = some (.int .i64 a) ∧ W.cell? ⟨w.heap.size, 2, none⟩ = some (.int .i64 b) ∧ W.cell? ⟨w.heap.size, 3, none⟩ = some (.int .i64 c) ∧ W.cell? ⟨w.heap.size, 4, none⟩ = some (.int .u32 n) ∧ Hid (Chg [] W0 W)) (World.drew W0) := KEEP.out _ (Chg.refl _ _).drew
        refine wp_region_plan (fun W : World => W.cell? ⟨w.heap.size, 0, none⟩ = some (.int .i64 k) ∧ W.cell? ⟨w.heap.size, 1, none⟩ = some (.int .i64 a) ∧ W.cell? ⟨w.heap.size, 2, none⟩ = some (.int .i64 b) ∧ W.cell? ⟨w.heap.size, 3, none⟩ = some (.int .i64 c) ∧ W.cell? ⟨w.heap.size, 4, none⟩ = some (.int .u32 n) ∧ Hid (Chg [] W0 W)) [(0, true, some 19), (2, true, some 21), (1, false, some 20), (3, false, some 22), (4, true, some 23)] (by kernel_rfl) (by kernel_rfl) (by kernel_rfl) (by kernel_rfl) (fun d c a v w h => by cases d <;> exact h) hHeld ?_
        repeat (first
          | (refine planWp_read (v := ?_) rfl rfl ?_ ?_ ?_; rotate_left; (focus rfl); (focus (intro u hSw; (try dsimp only at hSw); go_simp; (try with_reducible rfl))); (try simp only [Act.put, List.setIfInBounds_toArray, List.set_cons_zero, List.set_cons_succ]))
          | (refine planWp_skip rfl rfl ?_ ?_; (focus rfl); (try simp only [Act.put, List.setIfInBounds_toArray, List.set_cons_zero, List.set_cons_succ]))
          | (refine planWp_leave rfl rfl ?_ hHeld ?_; (focus rfl); (try simp only [Act.put, List.setIfInBounds_toArray, List.set_cons_zero, List.set_cons_succ]))
          | (refine planWp_do rfl rfl ?_ (fun K hK => ?_); (focus rfl); go_simp; (try go_wp2_with (first | (go_at_call 30; refine (RG.out _).mono ?_; rintro e wx ⟨rfl, hcx⟩; have HCX := Lib.hid hcx; clear hcx) | (go_at_call 33; refine (QG.out _).mono ?_; rintro e wx ⟨rfl, hcx⟩; have HCX := Lib.hid hcx; clear hcx))); refine hK.out _ _ ?_ (fun hHeld2 => ?_); (focus (have hcn := Chg.trans hHeld.2.2.2.2.2.out HCX.out; exact KEEP.out _ hcn)); clear hK K hHeld; have hHeld := hHeld2; clear hHeld2; (try simp only [Act.put, List.setIfInBounds_toArray, List.set_cons_zero, List.set_cons_succ])))
        refine planWp_nil ?_
        have HCC := Lib.hid (HCC.out.trans hHeld.2.2.2.2.2.out)
        have HBX := Lib.hid (Blk.keep HBX.out hHeld.2.2.2.2.2.out (by simp))
        obtain ⟨e0, e1, e2, e3, e4, _⟩ := hHeld
        clear KEEP
        go_wp2_with (first | (go_at_call 33; refine (QG.out _).mono ?_; rintro e W1 ⟨rfl, hcx⟩; have HBX := Lib.hid (Blk.keep HBX.out hcx (by simp)); have e0 := HBX.out.cell (o := 0) (v := .int .i64 k) rfl; have e1 := HBX.out.cell (o := 1) (v := .int .i64 a) rfl; have e2 := HBX.out.cell (o := 2) (v := .int .i64 b) rfl; have e3 := HBX.out.cell (o := 3) (v := .int .i64 c) rfl; have e4 := HBX.out.cell (o := 4) (v := .int .u32 n) rfl; have HCC := Lib.hid (HCC.out.trans hcx); clear hcx) | (go_at_call 36; refine (LG.out _).mono ?_; rintro e wx ⟨rfl, rfl⟩) | (go_at_call 37; refine (KG.out _).mono ?_; rintro e wx ⟨rfl, rfl⟩))
        have hB0 : Blk W1 w.heap.size #[.int .i64 k, .int .i64 a, .int .i64 b, .int .i64 c, .int .u32 n] 60 := HBX.out
        have e0 : W1.cell? ⟨w.heap.size, 0, none⟩ = some (.int .i64 k) := hB0.cell rfl
        have e1 : W1.cell? ⟨w.heap.size, 1, none⟩ = some (.int .i64 a) := hB0.cell rfl
        have e2 : W1.cell? ⟨w.heap.size, 2, none⟩ = some (.int .i64 b) := hB0.cell rfl
        have e3 : W1.cell? ⟨w.heap.size, 3, none⟩ = some (.int .i64 c) := hB0.cell rfl
        have e4 : W1.cell? ⟨w.heap.size, 4, none⟩ = some (.int .u32 n) := hB0.cell rfl
        have KEEP := Lib.hid (fun (W : World) (h : Chg [] W1 W) => (⟨h.keep e0 (by simp), h.keep e1 (by simp), h.keep e2 (by simp), h.keep e3 (by simp), h.keep e4 (by simp), Lib.hid h⟩ : (fun W : World => W.cell? ⟨w.heap.size, 0, none⟩ = some (.int .i64 k) ∧ W.cell? ⟨w.heap.size, 1, none⟩ = some (.int .i64 a) ∧ W.cell? ⟨w.heap.size, 2, none⟩ = some (.int .i64 b) ∧ W.cell? ⟨w.heap.size, 3, none⟩ = some (.int .i64 c) ∧ W.cell? ⟨w.heap.size, 4, none⟩ = some (.int .u32 n) ∧ Hid (Chg [] W1 W)) W))
        clear e0 e1 e2 e3 e4 hB0
        have hHeld : (fun W : World => W.cell? ⟨w.heap.size, 0, none⟩ = some (.int .i64 k) ∧ W.cell? ⟨w.heap.size, 1, none⟩ = some (.int .i64 a) ∧ W.cell? ⟨w.heap.size, 2, none⟩ = some (.int .i64 b) ∧ W.cell? ⟨w.heap.size, 3, none⟩ = some (.int .i64 c) ∧ W.cell? ⟨w.heap.size, 4, none⟩ = some (.int .u32 n) ∧ Hid (Chg [] W1 W)) (World.drew W1) := KEEP.out _ (Chg.refl _ _).drew
        refine wp_region_plan (fun W : World => W.cell? ⟨w.heap.size, 0, none⟩ = some (.int .i64 k) ∧ W.cell? ⟨w.heap.size, 1, none⟩ = some (.int .i64 a) ∧ W.cell? ⟨w.heap.size, 2, none⟩ = some (.int .i64 b) ∧ W.cell? ⟨w.heap.size, 3, none⟩ = some (.int .i64 c) ∧ W.cell? ⟨w.heap.size, 4, none⟩ = some (.int .u32 n) ∧ Hid (Chg [] W1 W)) [(0, true, some 111), (2, true, some 113), (1, false, some 112), (3, false, some 114), (4, false, some 115), (5, true, some 116), (6, true, some 117), (7, true, some 118), (9, true, some 120), (8, false, some 119), (10, false, some 121), (11, false, some 122), (12, true, some 123), (13, true, some 124), (14, true, some 125), (15, false, some 126), (16, true, some 127), (17, true, some 2)] (by kernel_rfl) (by kernel_rfl) (by kernel_rfl) (by kernel_rfl) (fun d c a v w h => by cases d <;> exact h) hHeld ?_
        repeat (first
          | (refine planWp_read (v := ?_) rfl rfl ?_ ?_ ?_; rotate_left; (focus rfl); (focus (intro u hSw; (try dsimp only at hSw); go_simp; (try with_reducible rfl))); (try simp only [Act.put, List.setIfInBounds_toArray, List.set_cons_zero, List.set_cons_succ]))
          | (refine planWp_skip rfl rfl ?_ ?_; (focus rfl); (try simp only [Act.put, List.setIfInBounds_toArray, List.set_cons_zero, List.set_cons_succ]))
          | (refine planWp_leave rfl rfl ?_ hHeld ?_; (focus rfl); (try simp only [Act.put, List.setIfInBounds_toArray, List.set_cons_zero, List.set_cons_succ]))
          | (refine planWp_do rfl rfl ?_ (fun K hK => ?_); (focus rfl); go_simp; (try go_wp2_with (first | (go_at_call 34; refine (UG.out _).mono ?_; rintro e wx ⟨rfl, hcx⟩; have HCX := Lib.hid hcx; clear hcx) | (go_at_call 35; refine (SG.out _).mono ?_; rintro e wx ⟨rfl, hcx⟩; have HCX := Lib.hid hcx; clear hcx) | (go_at_call 39; refine (RU.out _).mono ?_; rintro e wx ⟨v, rfl, hv, hcx⟩; obtain ⟨av, cv, rfl, _⟩ := reads_slice hv; have HV := Lib.hid hv; have HCX := Lib.hid hcx; clear hv hcx) | (go_at_call 40; refine (RS.out _).mono ?_; rintro e wx ⟨v, rfl, hv, hcx⟩; obtain ⟨av, cv, rfl, _⟩ := reads_slice hv; have HV := Lib.hid hv; have HCX := Lib.hid hcx; clear hv hcx) | (go_at_call 38; (first | refine (OFU.out _ _ HV.out).mono ?_ | refine (OFS.out _ _ HV.out).mono ?_); rintro e wx ⟨rfl, hcx⟩; have HCX := Lib.hid hcx; clear hcx) | (go_at_call 20; refine (awake_any _).mono ?_; rintro e wx ⟨rfl, hcx⟩; have HCX := Lib.hid hcx; clear hcx))); refine hK.out _ _ ?_ (fun hHeld2 => ?_); (focus (have hcn := Chg.trans hHeld.2.2.2.2.2.out HCX.out; exact KEEP.out _ hcn)); clear hK K hHeld; have hHeld := hHeld2; clear hHeld2; (try simp only [Act.put, List.setIfInBounds_toArray, List.set_cons_zero, List.set_cons_succ])))
        refine planWp_nil ?_
        have HCC := Lib.hid (HCC.out.trans hHeld.2.2.2.2.2.out)
        clear hHeld KEEP
        go_wp2_with fail
        go_ret
        exact ⟨rfl, HCC.out.below⟩
theorem own : ownKnob Try.prog.godebug = none := by kernel_rfl
theorem laidOut : laidOutB Try.prog = true := by kernel_rfl

/-- The walk: the law returns true, and nothing that was there has turned. -/
theorem walk (w : World) (cs0 : Array Value) (hs0 : cs0.size = Try.prog.cellsOf 60) (o0 : kit.Opens Try.prog w 9 60 cs0.toList) :
    Calls Try.prog 7 #[.agg cs0] w fun e w' => e = .returned (.bool true) ∧ Below w.heap.size w w' := by
  set_option maxRecDepth 100000 in
  obtain ⟨i, hi, hw⟩ := ins_open (n := 7) o0
  obtain ⟨op, a, b, c, n⟩ := i
  have hcs : cs0 = #[.int .i64 op, .int .i64 a, .int .i64 b, .int .i64 c, .int .u32 n] := by
    apply Array.toList_inj.1; rw [hi]; rfl
  subst hcs
  exact main op a b c n hw.2.2.2.2 w

set_option maxRecDepth 100000 in
theorem lifted (os : Os) (started : os.Started) (H : Type) (enc : TypeId × Value → H) :
    ReturnsInHanded {} Try.checked os 7 .any (Rows.isaRightSpec.pre6 enc Try.prog Try.f7 Rows.isaRightRow.domain false) (Rows.isaRightSpec.post enc Try.prog Try.f7 false true false false) := by
  refine returnsInHanded_of_change (C := Try.checked) own started (by kernel_rfl) Try.func7
    (ChangeSpec.witness6 (enc := enc) (C := Try.checked) false ⟨#[], #[.agg #[.int .i64 0, .int .i64 0, .int .i64 0, .int .i64 0, .int .u32 0]], []⟩ 8 (by kernel_rfl) (by kernel_rfl) (by kernel_rfl) (by kernel_rfl)) ?_
  intro W base args ds gs before hval0 hW hcnd _
  have hval : ∀ (j : Nat) t v, Try.f7.params[j]? = some t → args[j]? = some v → Value.okWide Try.prog W .any base t v := hval0
  have hW' := hW
  obtain ⟨p, q, hA0, hV, rfl, hfz, hnd⟩ := hW
  have hA : DataW.TrodAll enc Try.prog W 0 (fun _ => true) true Try.f7.params.toList args.toList ds p := hA0
  rw [Try.params7] at hA hval
  obtain ⟨v0, vs0, d0, ds0, p0, q0, hargs, rfl, rfl, h0, r0⟩ := trodAll_cons hA
  obtain ⟨rfl, rfl, rfl⟩ := trodAll_nil r0
  obtain rfl : args = #[v0] := by cases args; simp_all
  obtain ⟨rfl, rfl⟩ := trodVars_none hV
  have k0 := h0
  have lt0 : ∀ x ∈ p0, x.block < W.heap.size := by obtain ⟨m, hm⟩ := k0; exact DataW.trod_lt m _ _ _ hm
  obtain ⟨cs0, rfl, hs0⟩ := okWide_struct Try.underlying60 (hval 0 60 v0 rfl rfl)
  have o0 : kit.Opens Try.prog W 9 60 cs0.toList := by simpa [Value.cells] using kit.Trod_opens 9 k0
  clear hA0 hval0
  refine (walk W cs0 hs0 o0).mono fun e W' ⟨he, bel⟩ => ?_
  subst he
  exact ⟨_, rfl, _, _, _, [], _, [], hW', trodAll_mk1 (shut_bool Try.underlying4 _), (trodAll_cons_mk (Below.trod laidOut (by kernel_rfl) (of_decide_eq_true (by kernel_rfl)) k0 bel lt0) trodAll_mk0), rfl, bel.frame _, fun h => by cases h⟩

theorem over : Rows.isaRightRow.holds Try.pinned (OpenSpec.ofChange Rows.isaRightSpec) :=
  OpenClaim.holds_of_wide 7 Try.f7 rfl rfl rfl rfl rfl rfl rfl ⟨rfl, rfl, rfl, rfl, rfl⟩ rfl rfl rfl rfl rfl (by kernel_rfl) Try.func7 (by kernel_rfl)
    (of_decide_eq_true (by kernel_rfl)) (by unfold Func.isWrapper; first | (rw [if_pos (by decide +kernel)]; kernel_rfl) | (rw [if_neg (by decide +kernel)]; exact ⟨rfl, rfl⟩))
    (fun os started H enc _ => lifted os started H enc)

/-- The statement. -/
theorem proved : Rows.IsaRightSaid := over
end Go.Proofs.Ytihgljfiggdcpaa.isaRight
