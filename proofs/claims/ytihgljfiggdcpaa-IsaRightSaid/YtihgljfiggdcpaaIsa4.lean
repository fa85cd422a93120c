/- Package isa: instructions as bytes: Encode. -/
import Derived.Test.YtihgljfiggdcpaaIsa3
import Derived.Test.YtihgljfiggdcpaaCodecW5
import Derived.Test.YtihgljfiggdcpaaOpen
namespace Go.Proofs.Ytihgljfiggdcpaa.isa
open Go Go.RowKit Go.Proofs.Ytihgljfiggdcpaa.kit Go.Proofs.Ytihgljfiggdcpaa.codec
set_option linter.unusedVariables false
set_option maxRecDepth 20000

theorem szI : (Try.prog.info? 60).map (·.size) = some 5 := by kernel_rfl
def opB (x : Int) : List Int := leB (x % 4294967296) 1
def headB (i : Ins) (j : Nat) : List Int := ([i.op, i.a, i.b, i.c].take j).flatMap opB
def insB (i : Ins) : List Int := headB i 4 ++ leB i.n 4
def insW (p : List Ins) : Prop := ∀ i ∈ p, (Lit.int .u32 i.n).wf = true
def encL (p : List Ins) (b : Bool) : List Int := if b then p.flatMap insB else []
theorem opB_length (x : Int) : (opB x).length = 1 := by simp [opB, leB_length]
theorem insB_length (i : Ins) : (insB i).length = 8 := by simp [insB, headB, opB_length, leB_length]
theorem insB_le (p : List Ins) : (p.flatMap insB).length = 8 * p.length := by
  induction p with
  | nil => rfl
  | cons x r ih => rw [List.flatMap_cons, List.length_append, ih, insB_length, List.length_cons]; omega
theorem take_succ_flat {α β : Type} (f : α → List β) (l : List α) (k : Nat) (x : α) (hx : l[k]? = some x) : (l.take (k + 1)).flatMap f = (l.take k).flatMap f ++ f x := by
  rw [List.take_add_one, hx]; simp
theorem take_succ_all {α : Type} (f : α → Bool) (l : List α) (k : Nat) (x : α) (hx : l[k]? = some x) : (l.take (k + 1)).all f = ((l.take k).all f && f x) := by
  rw [List.take_add_one, hx]; simp
theorem all_false {α : Type} (f : α → Bool) (l : List α) (k : Nat) (x : α) (hx : l[k]? = some x) (hf : f x = false) : l.all f = false := by
  rw [Bool.eq_false_iff]; intro h
  have := List.all_eq_true.1 h x (List.mem_of_getElem? hx)
  rw [hf] at this; cases this
theorem headB_wf (i : Ins) (j : Nat) : ∀ x ∈ headB i j, (Lit.int .u8 x).wf = true := by
  intro x hx
  obtain ⟨y, _, hy⟩ := List.mem_flatMap.1 hx
  exact leB_wf _ _ x hy

theorem index4_0 (op a b c : Int) (u : World) : (Instr.index 83 (.agg #[.int .i64 op, .int .i64 a, .int .i64 b, .int .i64 c]) (.int .i64 0)).run Try.prog u = .ok (.int .i64 op) u := by
  have h1 : (Try.prog.info? 3).map (·.size) = some 1 := by kernel_rfl
  simp [Instr.index, go_sem]
  try rfl
theorem index4_1 (op a b c : Int) (u : World) : (Instr.index 83 (.agg #[.int .i64 op, .int .i64 a, .int .i64 b, .int .i64 c]) (.int .i64 1)).run Try.prog u = .ok (.int .i64 a) u := by
  have h1 : (Try.prog.info? 3).map (·.size) = some 1 := by kernel_rfl
  simp [Instr.index, go_sem]
  try rfl
theorem index4_2 (op a b c : Int) (u : World) : (Instr.index 83 (.agg #[.int .i64 op, .int .i64 a, .int .i64 b, .int .i64 c]) (.int .i64 2)).run Try.prog u = .ok (.int .i64 b) u := by
  have h1 : (Try.prog.info? 3).map (·.size) = some 1 := by kernel_rfl
  simp [Instr.index, go_sem]
  try rfl
theorem index4_3 (op a b c : Int) (u : World) : (Instr.index 83 (.agg #[.int .i64 op, .int .i64 a, .int .i64 b, .int .i64 c]) (.int .i64 3)).run Try.prog u = .ok (.int .i64 c) u := by
  have h1 : (Try.prog.info? 3).map (·.size) = some 1 := by kernel_rfl
  simp [Instr.index, go_sem]
  try rfl

set_option maxRecDepth 100000 in
set_option maxHeartbeats 2000000 in
theorem Encode_any (v : Value) (p : List Ins) (w : World) (hr : Reads w 5 v p.length (p.flatMap Ins.cells)) (hl : p.length ≤ 1000) (hw : insW p) :
    Calls Try.prog 24 #[v] w fun e w' => ∃ v', e = .returned (.tuple #[v', .bool (p.all rightI)]) ∧ ReadsB w' v' (encL p (p.all rightI)) ∧ Chg [] w w' := by
  obtain ⟨bb, off, hix, hcell, _⟩ := reads_index (P := Try.prog) Try.underlying50 szI hr
  obtain ⟨a1, cap1, rfl, _⟩ := reads_slice hr
  have HX := Lib.hid hix
  have HC := Lib.hid hcell
  have HW := Lib.hid hw
  have HL := Lib.hid hl
  clear hix hcell hw hr hl
  generalize hres : p.all rightI = res
  generalize hN : p.length = N at *
  have HN := Lib.hid hN
  have HR := Lib.hid hres
  clear hN hres
  go_enter Try.func24, Try.ntmps24
  go_wp2_with fail
  go_loopw [4, 11] (fun b i wr => ∃ k : Nat, k ≤ N ∧ i = .int .i64 k ∧ Hid (ReadsB wr b ((p.take k).flatMap insB)) ∧ Hid ((p.take k).all rightI = true) ∧ Hid (Chg [] w wr)) (fun _ i _ => N - (intOf i).toNat)
  case atStart => exact ⟨0, Nat.zero_le _, rfl, Lib.hid (by simpa using ReadsB.nil w), Lib.hid (by simp), Lib.hid (Chg.refl _ _)⟩
  case round =>
    obtain ⟨k, hk, rfl, HB, HA, HG⟩ := hrel
    by_cases hlt : k < N
    · have g1 := HX.out k hlt
      obtain ⟨⟨op, a, b, c, n⟩, hik⟩ : ∃ i, p[k]? = some i := ⟨_, List.getElem?_eq_getElem (by rw [HN.out]; exact hlt)⟩
      have q0 := HG.out.keep (HC.out (k * 5 + 0) _ (by rw [flatMap_get Ins.cells 5 (fun _ => rfl) p k 0 (by decide) _ hik]; rfl)) (by simp)
      have q1 := HG.out.keep (HC.out (k * 5 + 1) _ (by rw [flatMap_get Ins.cells 5 (fun _ => rfl) p k 1 (by decide) _ hik]; rfl)) (by simp)
      have q2 := HG.out.keep (HC.out (k * 5 + 2) _ (by rw [flatMap_get Ins.cells 5 (fun _ => rfl) p k 2 (by decide) _ hik]; rfl)) (by simp)
      have q3 := HG.out.keep (HC.out (k * 5 + 3) _ (by rw [flatMap_get Ins.cells 5 (fun _ => rfl) p k 3 (by decide) _ hik]; rfl)) (by simp)
      have q4 := HG.out.keep (HC.out (k * 5 + 4) _ (by rw [flatMap_get Ins.cells 5 (fun _ => rfl) p k 4 (by decide) _ hik]; rfl)) (by simp)
      rw [Nat.add_zero] at q0
      rw [← Nat.add_assoc] at q1 q2 q3 q4
      have hn : (Lit.int .u32 n).wf = true := HW.out ⟨op, a, b, c, n⟩ (List.mem_of_getElem? hik)
      have HN2 := Lib.hid hn
      have HI := Lib.hid hik
      clear hn hik
      generalize hg : rightI ⟨op, a, b, c, n⟩ = g
      have HG1 := Lib.hid hg
      clear hg
      cases g
      · go_wp2_with (go_at_call 30; refine (Right_any op a b c n HN2.out _).mono ?_; rintro e w1 ⟨rfl, hc1⟩; rw [HG1.out]; have HK1 := Lib.hid hc1; clear hc1)
        obtain rfl : res = false := by rw [← HR.out]; exact all_false rightI p k _ HI.out HG1.out
        go_ret2
        exact ⟨_, rfl, ReadsB.nil _, (HG.out.alloc _).trans HK1.out⟩
      · go_wp2_with (go_at_call 30; refine (Right_any op a b c n HN2.out _).mono ?_; rintro e w1 ⟨rfl, hc1⟩; rw [HG1.out]; have hbx : Blk w1 wr.heap.size #[.int .i64 op, .int .i64 a, .int .i64 b, .int .i64 c, .int .u32 n] 60 := (Blk.new wr _ _).keep hc1 (by simp); have f0 := hbx.cell (o := 0) (v := .int .i64 op) rfl; have f1 := hbx.cell (o := 1) (v := .int .i64 a) rfl; have f2 := hbx.cell (o := 2) (v := .int .i64 b) rfl; have f3 := hbx.cell (o := 3) (v := .int .i64 c) rfl; have f4 := hbx.cell (o := 4) (v := .int .u32 n) rfl; have HK1 := Lib.hid (((Chg.refl [] wr).alloc _).trans hc1); clear hc1; have HBX := Lib.hid hbx; clear hbx)
        have HG2 := Lib.hid (HG.out.trans HK1.out)
        have HB2 := Lib.hid (HB.out.chg HK1.out)
        have hlen : (p.take k).length ≤ 1000 := by rw [List.length_take, HN.out]; have := HL.out; omega
        have HL2 := Lib.hid hlen
        clear hlen
        go_loopw [4, 27] (fun b2 j w2 => ∃ m : Nat, m ≤ 4 ∧ j = .int .i64 m ∧ Hid (ReadsB w2 b2 ((p.take k).flatMap insB ++ headB ⟨op, a, b, c, n⟩ m)) ∧ Hid (Chg [] w1 w2)) (fun _ j _ => 4 - (intOf j).toNat)
        case atStart => exact ⟨0, Nat.zero_le _, rfl, Lib.hid (by simpa [headB] using HB2.out), Lib.hid (Chg.refl _ _)⟩
        case round =>
          obtain ⟨m, hm, hj, HB3, HG3⟩ := hrel
          have hsmall : ((p.take k).flatMap insB ++ headB ⟨op, a, b, c, n⟩ m).length ≤ 1000000 := by
            have h1 := insB_le (p.take k)
            have h2 := HL2.out
            have h3 : (headB ⟨op, a, b, c, n⟩ m).length ≤ 4 := by
              have : m = 0 ∨ m = 1 ∨ m = 2 ∨ m = 3 ∨ m = 4 := by omega
              rcases this with rfl | rfl | rfl | rfl | rfl <;> simp [headB, opB_length]
            rw [List.length_append, h1]; omega
          have HS := Lib.hid hsmall
          clear hsmall
          by_cases hlt4 : m < 4
          · have hm4 : m = 0 ∨ m = 1 ∨ m = 2 ∨ m = 3 := by omega
            have ix0 := index4_0 op a b c
            have ix1 := index4_1 op a b c
            have ix2 := index4_2 op a b c
            have ix3 := index4_3 op a b c
            rcases hm4 with rfl | rfl | rfl | rfl
            all_goals (first | (have hj0 : u27 = .int .i64 0 := hj; subst hj0) | (have hj0 : u27 = .int .i64 1 := hj; subst hj0) | (have hj0 : u27 = .int .i64 2 := hj; subst hj0) | (have hj0 : u27 = .int .i64 3 := hj; subst hj0))
            all_goals clear hj
            all_goals (go_wp2_with (go_at_call 46; refine (Put8_r _ _ _ _ HB3.out HS.out).mono ?_; rintro e w4 ⟨v4, rfl, h4, hc4⟩; have HB4 := Lib.hid h4; have HC4 := Lib.hid hc4; clear h4 hc4))
            all_goals go_roundw
            all_goals first
              | (case rel => exact ⟨1, by decide, rfl, Lib.hid (by simpa [headB, opB] using HB4.out), Lib.hid (HG3.out.trans HC4.out)⟩)
              | (case rel => exact ⟨2, by decide, rfl, Lib.hid (by simpa [headB, opB] using HB4.out), Lib.hid (HG3.out.trans HC4.out)⟩)
              | (case rel => exact ⟨3, by decide, rfl, Lib.hid (by simpa [headB, opB] using HB4.out), Lib.hid (HG3.out.trans HC4.out)⟩)
              | (case rel => exact ⟨4, by decide, rfl, Lib.hid (by simpa [headB, opB] using HB4.out), Lib.hid (HG3.out.trans HC4.out)⟩)
              | (case measure => simp [intOf])
              | (simp [intOf]; done)
          · obtain rfl : m = 4 := by omega
            have hj0 : u27 = .int .i64 4 := hj
            subst hj0
            clear hj
            have f4' := HG3.out.keep f4 (by simp)
            have hk2 : k < 1000 := by have := HL.out; omega
            go_wp2_with (go_at_call 47; refine (Put32_r _ _ _ _ HB3.out HS.out (wf_u32 HN2.out).1 (wf_u32 HN2.out).2).mono ?_; rintro e w4 ⟨v4, rfl, h4, hc4⟩; have HB4 := Lib.hid h4; have HC4 := Lib.hid hc4; clear h4 hc4)
            go_roundw
            case rel =>
              refine ⟨k + 1, by omega, by go_num, Lib.hid ?_, Lib.hid ?_, Lib.hid ((HG2.out.trans HG3.out).trans HC4.out)⟩
              · rw [take_succ_flat insB p k _ HI.out]
                have h4 := HB4.out
                rw [List.append_assoc] at h4
                exact h4
              · rw [take_succ_all rightI p k _ HI.out, HA.out, HG1.out]; rfl
            case measure => simp [intOf]; omega
    · go_wp2_with fail
      go_ret2
      obtain rfl : k = N := by omega
      have ht : p.take k = p := List.take_of_length_le (by rw [HN.out]; exact Nat.le_refl _)
      have h1 := HA.out
      have h2 := HB.out
      rw [ht] at h1 h2
      have h3 := HR.out
      rw [h1] at h3
      subst h3
      exact ⟨_, rfl, h2, HG.out⟩
end Go.Proofs.Ytihgljfiggdcpaa.isa
