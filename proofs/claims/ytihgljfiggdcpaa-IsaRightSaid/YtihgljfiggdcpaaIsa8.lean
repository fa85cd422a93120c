/- Package isa's reference: Bytes, Encode. -/
import Derived.Test.YtihgljfiggdcpaaIsa6
import Derived.Test.YtihgljfiggdcpaaIsa7
namespace Go.Proofs.Ytihgljfiggdcpaa.isa
open Go Go.RowKit Go.Proofs.Ytihgljfiggdcpaa.kit Go.Proofs.Ytihgljfiggdcpaa.codec
set_option linter.unusedVariables false
set_option maxRecDepth 20000

theorem insB_eq (op a b c n : Int) (h0 : 0 ≤ n) (h1 : n ≤ 4294967295) : insB ⟨op, a, b, c, n⟩ = [op % 256, a % 256, b % 256, c % 256, n % 256, n / 256 % 256, n / 65536 % 256, n / 16777216] := by
  simp [insB, headB, opB, leB]
  omega
theorem insB_wf (i : Ins) : ∀ x ∈ insB i, (Lit.int .u8 x).wf = true := wf_append (headB_wf i 4) (leB_wf _ _)
theorem insBs_wf (p : List Ins) : ∀ x ∈ p.flatMap insB, (Lit.int .u8 x).wf = true := by
  intro x hx
  obtain ⟨i, _, hi⟩ := List.mem_flatMap.1 hx
  exact insB_wf i x hi
theorem bytes_lit' (w : World) (b : Nat) (hb : b = w.heap.size) (zs : List Int) (n : Nat) (hn : zs.length = n) (hm : n ≤ maxLen) (hw : ∀ x ∈ zs, (Lit.int .u8 x).wf = true) : ReadsB (w.alloc (.cells (zs.map (Value.int .u8)).toArray 5)) (.slice (some ⟨b, 0, none⟩) n n) zs := by
  subst hb; exact bytes_lit w zs n hn hm hw
theorem rBytes_any (op a b c n : Int) (hn : (Lit.int .u32 n).wf = true) (w : World) : Calls Try.prog 48 #[.agg #[.int .i64 op, .int .i64 a, .int .i64 b, .int .i64 c, .int .u32 n]] w fun e w' => ∃ v, e = .returned v ∧ ReadsB w' v (insB ⟨op, a, b, c, n⟩) ∧ Chg [] w w' := by
  have hn0 := wf_u32 hn
  have hwf := insB_wf ⟨op, a, b, c, n⟩
  rw [insB_eq op a b c n hn0.1 hn0.2] at hwf ⊢
  have HW := Lib.hid hwf
  clear hwf
  go_enter Try.func48, Try.ntmps48
  go_wp2
  go_ret
  exact ⟨_, rfl, bytes_lit' (w.alloc _) _ (by simp) [op % 256, a % 256, b % 256, c % 256, n % 256, n / 256 % 256, n / 65536 % 256, n / 16777216] 8 rfl (by decide) HW.out, ((Chg.refl _ _).alloc _).alloc _⟩

set_option maxRecDepth 100000 in
set_option maxHeartbeats 2000000 in
theorem rEncode_any (v : Value) (p : List Ins) (w : World) (hr : Reads w 5 v p.length (p.flatMap Ins.cells)) (hl : p.length ≤ 1000) (hw : insW p) :
    Calls Try.prog 25 #[v] w fun e w' => ∃ v', e = .returned (.tuple #[v', .bool (p.all rightI)]) ∧ ReadsB w' v' (encL p (p.all rightI)) ∧ Chg [] w w' := by
  obtain ⟨i0, hi, hz0, hz1, hz2⟩ := info_parts info5
  obtain ⟨bb, off, hix, hcell, _⟩ := reads_index (P := Try.prog) Try.underlying50 szI hr
  obtain ⟨a1, cap1, rfl, _⟩ := reads_slice hr
  have HX := Lib.hid hix
  have HC := Lib.hid hcell
  have HW := Lib.hid hw
  have HL := Lib.hid hl
  clear hix hcell hw hr hl
  generalize hres : p.all rightI = res
  generalize hN : p.length = N at *
  have HN := Lib.hid hN
  have HR := Lib.hid hres
  clear hN hres
  go_enter Try.func25, Try.ntmps25
  go_wp2_with fail
  go_loopw [4, 9] (fun b i wr => ∃ k : Nat, k ≤ N ∧ i = .int .i64 k ∧ Hid (OwnB wr w.heap.size b ((p.take k).flatMap insB)) ∧ Hid ((p.take k).all rightI = true) ∧ Hid (Chg [] w wr)) (fun _ i _ => N - (intOf i).toNat)
  case atStart => exact ⟨0, Nat.zero_le _, rfl, Lib.hid (World.ownsRow_nil w _ _ _), Lib.hid (by simp), Lib.hid (Chg.refl _ _)⟩
  case round =>
    obtain ⟨k, hk, rfl, HB, HA, HG⟩ := hrel
    by_cases hlt : k < N
    · have g1 := HX.out k hlt
      obtain ⟨⟨op, a, b, c, n⟩, hik⟩ : ∃ i, p[k]? = some i := ⟨_, List.getElem?_eq_getElem (by rw [HN.out]; exact hlt)⟩
      have q0 := HG.out.keep (HC.out (k * 5 + 0) _ (by rw [flatMap_get Ins.cells 5 (fun _ => rfl) p k 0 (by decide) _ hik]; rfl)) (by simp)
      have q1 := HG.out.keep (HC.out (k * 5 + 1) _ (by rw [flatMap_get Ins.cells 5 (fun _ => rfl) p k 1 (by decide) _ hik]; rfl)) (by simp)
      have q2 := HG.out.keep (HC.out (k * 5 + 2) _ (by rw [flatMap_get Ins.cells 5 (fun _ => rfl) p k 2 (by decide) _ hik]; rfl)) (by simp)
      have q3 := HG.out.keep (HC.out (k * 5 + 3) _ (by rw [flatMap_get Ins.cells 5 (fun _ => rfl) p k 3 (by decide) _ hik]; rfl)) (by simp)
      have q4 := HG.out.keep (HC.out (k * 5 + 4) _ (by rw [flatMap_get Ins.cells 5 (fun _ => rfl) p k 4 (by decide) _ hik]; rfl)) (by simp)
      rw [Nat.add_zero] at q0
      rw [← Nat.add_assoc] at q1 q2 q3 q4
      have hn : (Lit.int .u32 n).wf = true := HW.out ⟨op, a, b, c, n⟩ (List.mem_of_getElem? hik)
      have HN2 := Lib.hid hn
      have HI := Lib.hid hik
      clear hn hik
      have hk1000 : k < 1000 := by have := HL.out; omega
      have hlen : ((p.take k).flatMap insB).length ≤ 8000 := by rw [insB_le, List.length_take]; omega
      generalize hbl : ((p.take k).flatMap insB).length = bl at hlen
      have HBL := Lib.hid hbl
      have HLEN := Lib.hid hlen
      clear hbl hlen
      generalize hg : rightI ⟨op, a, b, c, n⟩ = g
      have HG1 := Lib.hid hg
      clear hg
      cases g
      · go_wp2_with (go_at_call 33; refine (rRight_any op a b c n HN2.out _).mono ?_; rintro e w1 ⟨rfl, hc1⟩; rw [HG1.out]; have HK1 := Lib.hid hc1; clear hc1)
        obtain rfl : res = false := by rw [← HR.out]; exact all_false rightI p k _ HI.out HG1.out
        go_ret2
        exact ⟨_, rfl, ReadsB.nil _, (HG.out.alloc _).trans HK1.out⟩
      · go_wp2_with (first | (go_at_call 33; refine (rRight_any op a b c n HN2.out _).mono ?_; rintro e w1 ⟨rfl, hc1⟩; rw [HG1.out]; have hbx : Blk w1 wr.heap.size #[.int .i64 op, .int .i64 a, .int .i64 b, .int .i64 c, .int .u32 n] 60 := (Blk.new wr _ _).keep hc1 (by simp); have f0 := hbx.cell (o := 0) (v := .int .i64 op) rfl; have f1 := hbx.cell (o := 1) (v := .int .i64 a) rfl; have f2 := hbx.cell (o := 2) (v := .int .i64 b) rfl; have f3 := hbx.cell (o := 3) (v := .int .i64 c) rfl; have f4 := hbx.cell (o := 4) (v := .int .u32 n) rfl; have HK1 := Lib.hid (((Chg.refl [] wr).alloc _).trans hc1); clear hc1; have HBX := Lib.hid hbx; clear hbx) | (go_at_call 48; refine (rBytes_any op a b c n HN2.out _).mono ?_; rintro e w2 ⟨v2, rfl, h2, hc2⟩; have H2 := Lib.hid h2; have HK2 := Lib.hid (HK1.out.trans hc2); clear h2 hc2) | (at_builtin; refine wpList_append_any _ rfl _ _ 51 rfl w.heap.size 5 i0 (.int .u8 0) 1 1 Try.underlying51 hi hz0 hz1 hz2 rfl (by decide) u4 bl _ rfl (by have h := own_chg HB.out HK2.out (by simp); rw [HBL.out] at h; exact h) v2 8 _ rfl (by have h := H2.out.1; rw [insB_length] at h; exact h) (ints_oneCell _ _) (by have := HLEN.out; unfold maxLen; omega) (by have := HLEN.out; omega) (by have := (HG.out.trans HK2.out).size; omega) ?_; intro v3 w3 hown3 hg3; have HK3 := Lib.hid ((HG.out.trans HK2.out).grown hg3 (fun y hy => .inr (World.ownsRow.lt HB.out y hy).1)); have HO3 := Lib.hid hown3; clear hown3 hg3))
        have hq8 : (insB ⟨op, a, b, c, n⟩).length = 8 := insB_length _
        go_roundw
        case rel =>
          refine ⟨k + 1, by omega, by go_num, Lib.hid ?_, Lib.hid ?_, HK3⟩
          · unfold OwnB
            rw [take_succ_flat insB p k _ HI.out, List.map_append, List.length_append, HBL.out, hq8]
            exact HO3.out
          · rw [take_succ_all rightI p k _ HI.out, HA.out, HG1.out]; rfl
        case measure => simp [intOf]; omega
    · go_wp2_with fail
      go_ret2
      obtain rfl : k = N := by omega
      have ht : p.take k = p := List.take_of_length_le (by rw [HN.out]; exact Nat.le_refl _)
      have h1 := HA.out
      have h2 := HB.out
      rw [ht] at h1 h2
      have h3 := HR.out
      rw [h1] at h3
      subst h3
      exact ⟨_, rfl, OwnB.reads h2 (insBs_wf p), HG.out⟩
end Go.Proofs.Ytihgljfiggdcpaa.isa
