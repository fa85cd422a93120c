/- Package micro: an attempt fails; a word of a record goes over; what is told. -/
import Derived.Test.YtbbpnpokccfhjaaCore3
namespace Go.Proofs.Ytbbpnpokccfhjaa.core
open Go Go.RowKit Go.Proofs.Ytbbpnpokccfhjaa.kit Go.Proofs.Ytbbpnpokccfhjaa.mem Go.Proofs.Ytbbpnpokccfhjaa.rop
set_option linter.unusedVariables false
set_option maxRecDepth 20000

set_option maxHeartbeats 4000000 in
theorem Fail_any {T : TypeId} {bx mb : Nat} {sv r0 : Value} {W0 W : World} {x : Core} {rec ws : List Int} {n : Int} (ht : 0 ≤ x.tries ∧ x.tries ≤ 1000000) (h : St T bx mb sv W0 r0 W x rec ws n) :
    Calls Try.prog 105 #[.pointer (some ⟨bx, 0, none⟩)] W fun e W' => e = .returned (.bool (decide (x.c ≤ x.tries + 1))) ∧ St T bx mb sv W0 r0 W' { x with tries := x.tries + 1, phase := 0, i := 0 } [] ws n := by
  have H := Lib.hid h
  have e12 : W.cell? ⟨bx, 12, none⟩ = some (.int .i64 x.tries) := H.out.cell 12 _ (fun _ => rfl)
  have f12 := H.out.free 12
  have f16 := H.out.free 16
  obtain ⟨rca, rcc, e16⟩ := H.out.rowc
  have H1 : Hid (St T bx mb sv W0 r0 ((W.setCell ⟨bx, 12, none⟩ (.int .i64 (x.tries + 1))).setCell ⟨bx, 16, none⟩ (.slice none 0 0)) { x with tries := x.tries + 1 } [] ws n) := Lib.hid (H.out.put 12 (.int .i64 (x.tries + 1)) { x with tries := x.tries + 1 } (fun _ => rfl)).nil
  clear h
  obtain ⟨y, hy⟩ : ∃ y, ({ x with tries := x.tries + 1, phase := 0, i := 0 } : Core) = y := ⟨_, rfl⟩
  have HY := Lib.hid hy
  have hyt : y.tries = x.tries + 1 := by rw [← hy]
  have hyc : y.c = x.c := by rw [← hy]
  rw [hy, ← hyt, ← hyc]
  clear hy
  have HYT := Lib.hid hyt
  have HYC := Lib.hid hyc
  clear hyc hyt
  go_enter Try.func105, Try.ntmps105
  go_wp2_with (go_at_call 87; refine (Go_any 0 H1.out).mono ?_; rintro e W2 ⟨rfl, hx⟩; have H2 : Hid (St T bx mb sv W0 r0 W2 y [] ws n) := Lib.hid (by rw [← HY.out]; exact hx); clear hx)
  have eS0 : W2.cell? ⟨bx, 12, none⟩ = some (.int .i64 y.tries) := H2.out.cell 12 _ (fun _ => rfl)
  have eS1 : W2.cell? ⟨bx, 3, none⟩ = some (.int .i64 y.c) := H2.out.cell 3 _ (fun _ => rfl)
  have KEEP := Lib.hid (fun (V : World) (h : Chg [] W2 V) => (⟨h.keep eS0 (by simp), h.keep eS1 (by simp), Lib.hid h⟩ : (fun V : World => V.cell? ⟨bx, 12, none⟩ = some (.int .i64 y.tries) ∧ V.cell? ⟨bx, 3, none⟩ = some (.int .i64 y.c) ∧ Hid (Chg [] W2 V)) V))
  clear eS0 eS1
  have hHeld : (fun V : World => V.cell? ⟨bx, 12, none⟩ = some (.int .i64 y.tries) ∧ V.cell? ⟨bx, 3, none⟩ = some (.int .i64 y.c) ∧ Hid (Chg [] W2 V)) (World.drew W2) := KEEP.out _ (Chg.refl _ _).drew
  refine wp_region_plan (fun V : World => V.cell? ⟨bx, 12, none⟩ = some (.int .i64 y.tries) ∧ V.cell? ⟨bx, 3, none⟩ = some (.int .i64 y.c) ∧ Hid (Chg [] W2 V)) [(0, true, some 15), (1, true, some 16), (2, true, some 17), (3, true, some 18), (4, true, some 19), (5, true, some 20), (6, true, some 21), (7, true, some 22), (8, true, some 23), (9, true, some 24), (10, true, some 2)] (by kernel_rfl) (by kernel_rfl) (by kernel_rfl) (by kernel_rfl) (fun d c a v w h => by cases d <;> exact h) hHeld ?_
  repeat (first
    | (refine planWp_read (v := ?_) rfl rfl ?_ ?_ ?_; rotate_left; (focus rfl); (focus (intro u hSw; (try dsimp only at hSw); go_simp; (try with_reducible rfl))); (try simp only [Act.put, List.setIfInBounds_toArray, List.set_cons_zero, List.set_cons_succ]))
    | (refine planWp_skip rfl rfl ?_ ?_; (focus rfl); (try simp only [Act.put, List.setIfInBounds_toArray, List.set_cons_zero, List.set_cons_succ]))
    | (refine planWp_leave rfl rfl ?_ hHeld ?_; (focus rfl); (try simp only [Act.put, List.setIfInBounds_toArray, List.set_cons_zero, List.set_cons_succ]))
    | (refine planWp_do rfl rfl ?_ (fun K hK => ?_); (focus rfl); go_simp; (try go_wp2_with fail); refine hK.out _ _ ?_ (fun hHeld2 => ?_); (focus (exact KEEP.out _ (Chg.trans hHeld.2.2.out HCX.out))); clear hK K hHeld; have hHeld := hHeld2; clear hHeld2; (try simp only [Act.put, List.setIfInBounds_toArray, List.set_cons_zero, List.set_cons_succ])))
  refine planWp_nil ?_
  have HC := Lib.hid hHeld.2.2.out
  clear hHeld KEEP
  go_wp2_with fail
  go_ret
  exact ⟨rfl, H2.out.keep HC.out⟩

set_option maxHeartbeats 4000000 in
theorem Word_write {T : TypeId} {bx mb : Nat} {sv r0 : Value} {W0 W : World} {x : Core} {rec ws : List Int} {n : Int} (bN f iN : Nat) (hop : x.op = 2 ∨ x.op = 3) (hm : x.m = .pointer (some ⟨mb, 0, none⟩)) (hb : x.base = (bN : Int)) (hi : x.i = (iN : Int)) (hir : iN < rec.length) (hj : bN + (f + iN) < ws.length) (hn : 0 ≤ n ∧ n ≤ 1000000) (h : St T bx mb sv W0 r0 W x rec ws n) :
    Calls Try.prog 88 #[.pointer (some ⟨bx, 0, none⟩), .int .i64 (f : Int)] W fun e W' => e = .returned (.bool (decide (x.w ≤ (iN : Int) + 1))) ∧ St T bx mb sv W0 r0 W' { x with i := (iN : Int) + 1 } rec (ws.set (bN + (f + iN)) (rec.getD iN 0)) (n + 1) := by
  have H := Lib.hid h
  have HI : Hid (0 ≤ x.i ∧ x.i ≤ 1000000) := Lib.hid (by obtain ⟨v, hp, he⟩ := h; have := hp.short; omega)
  have hadd : IntKind.i64.wrap ((f : Int) + (iN : Int)) = ((f + iN : Nat) : Int) := by
    have hlen : bN + (f + iN) ≤ 4096 := by have := h.memory.short; omega
    rw [IntKind.wrap_i64]; omega
  have hget : rec.getD iN 0 = rec[iN] := by simp [List.getD, hir]
  obtain ⟨rv, hrv⟩ : ∃ rv, rec.getD iN 0 = rv := ⟨_, rfl⟩
  have HU : Hid (0 ≤ rv ∧ rv ≤ 4294967295) := Lib.hid (by
    obtain ⟨v, hp, he⟩ := h
    rw [← hrv, hget]
    exact wf_u32 (hp.wf _ (List.getElem_mem hir)))
  have hrow : ∃ g cp, W.cell? ⟨bx, 16, none⟩ = some (.slice (some ⟨g, 0, none⟩) rec.length cp) ∧ W.cell? ⟨g, iN, none⟩ = some (.int .u32 rv) := by
    obtain ⟨v, hp, he⟩ := h
    rcases hp.row.2 with ⟨h0, h1⟩ | ⟨g, cap, cur, rfl, hbg, hg, hnc, hcm, hcs, htake⟩
    · exfalso; omega
    · refine ⟨g, cap, hp.box.cell rfl, ?_⟩
      have hq := (World.ownsRow.cells (g := g) hp.row rfl) iN (.int .u32 rv) (by rw [List.getElem?_map, List.getElem?_eq_getElem hir, ← hget, hrv]; rfl)
      simpa [add_plain] using hq
  obtain ⟨g, cp, e16, eg⟩ := hrow
  rw [hrv]
  have e11 : W.cell? ⟨bx, 11, none⟩ = some (.int .i64 (iN : Int)) := by rw [← hi]; exact H.out.cell 11 _ (fun _ => rfl)
  have e1 : W.cell? ⟨bx, 1, none⟩ = some (.int .i64 x.w) := H.out.cell 1 _ (fun _ => rfl)
  have HM := Lib.hid hm
  have HB := Lib.hid hb
  have HJ := Lib.hid hj
  have HN := Lib.hid hn
  have HIE := Lib.hid hi
  have hin : (iN : Int) < (rec.length : Int) := by omega
  have E16 := Lib.hid e16
  have E11 := Lib.hid e11
  have EG := Lib.hid eg
  have HRV := Lib.hid hrv
  clear h hm hb hj hn hi e1 hrv hget hir e16 e11 eg
  have key : ∀ o, x.op = o → (o = 2 ∨ o = 3) → Calls Try.prog 88 #[.pointer (some ⟨bx, 0, none⟩), .int .i64 (f : Int)] W fun e W' => e = .returned (.bool (decide (x.w ≤ (iN : Int) + 1))) ∧ St T bx mb sv W0 r0 W' { x with i := (iN : Int) + 1 } rec (ws.set (bN + (f + iN)) rv) (n + 1) := by
    intro o ho hoo
    have e8 : W.cell? ⟨bx, 8, none⟩ = some (.int .i64 o) := by rw [← ho]; exact H.out.cell 8 _ (fun _ => rfl)
    clear hop ho
    rcases hoo with rfl | rfl
    all_goals
      go_enter Try.func88, Try.ntmps88
      go_wp2_with fail
      refine wp_region_tail 17 (by kernel_rfl) (by kernel_rfl) ?_
      intro W3 hW3
      have e11 : W3.cell? ⟨bx, 11, none⟩ = some (.int .i64 (iN : Int)) := by rw [hW3.out]; exact E11.out
      have e16 : W3.cell? ⟨bx, 16, none⟩ = some (.slice (some ⟨g, 0, none⟩) rec.length cp) := by rw [hW3.out]; exact E16.out
      have eg : W3.cell? ⟨g, iN, none⟩ = some (.int .u32 rv) := by rw [hW3.out]; exact EG.out
      have H3 : Hid (St T bx mb sv W0 r0 W3 x rec ws n) := Lib.hid (by rw [hW3.out]; exact H.out.keep (Chg.refl _ _).drew)
      clear hW3
      simp only [List.take_succ_cons, List.take_zero, List.drop_succ_cons, List.drop_zero]
      repeat still_step
      refine wpStill_nil ?_
      go_wp2_with (first | (go_at_call 90; refine (Write_at bN (f + iN) rv HU.out HM.out HB.out HJ.out HN.out H3.out).mono ?_; rintro e W4 ⟨rfl, hx⟩; have H4 := Lib.hid hx; clear hx; have e1 : W4.cell? ⟨bx, 1, none⟩ = some (.int .i64 x.w) := H4.out.cell 1 _ (fun _ => rfl)) | (go_at_call 104; refine (Each_any _ HI.out H4.out).mono ?_; rintro e W9 ⟨rfl, hx⟩; have HX := Lib.hid hx; clear hx))
      go_ret
      rw [← HIE.out]
      exact ⟨rfl, HX.out⟩
  exact key _ rfl hop
end Go.Proofs.Ytbbpnpokccfhjaa.core
