/- The kernel: let. -/
import Derived.Test.YtfkokbeloenfdaaDoorKrnS
namespace Go.Proofs.YtfkokbeloenfdaaDoor.krn
open Go Go.RowKit Go.Proofs.YtfkokbeloenfdaaDoor.kit Go.Shelf
set_option linter.unusedVariables false
set_option linter.unusedSimpArgs false
set_option maxRecDepth 20000
structure KStep (w : World) (B kb n' : Nat) (q : KQ) (w' : World) (k' : Kn) (q' : KQ) : Prop where
  at_ : KAt w' B kb n' k' q'
  sub : ∀ y ∈ q'.all kb, y ∈ q.all kb ∨ w.heap.size ≤ y
  chg : Chg (q.all kb) w w'
theorem KStep.refl {w : World} {B kb n : Nat} {k : Kn} {q : KQ} (h : KAt w B kb n k q) : KStep w B kb n q w k q := ⟨h, fun y hy => .inl hy, Chg.refl _ _⟩
theorem KStep.trans {w w' w'' : World} {B kb n n' : Nat} {k k' : Kn} {q q' q'' : KQ} (h : KStep w B kb n q w' k q') (h' : KStep w' B kb n' q' w'' k' q'') : KStep w B kb n' q w'' k' q'' := by
  refine ⟨h'.at_, fun y hy => ?_, h.chg.into h'.chg h.sub⟩
  have := h.chg.size
  rcases h'.sub y hy with h1 | h1
  · exact h.sub y h1
  · exact .inr (by omega)
theorem KStep.fresh {w w' w'' : World} {B kb n : Nat} {k : Kn} {q q' : KQ} (h : KStep w B kb n q w' k q') (c : Chg [] w' w'') : KStep w B kb n q w'' k q' := ⟨h.at_.fresh c, h.sub, h.chg.fresh c⟩
theorem KStep.pre {w w' w'' : World} {B kb n : Nat} {k : Kn} {q q' : KQ} (c : Chg [] w w') (h : KStep w' B kb n q w'' k q') : KStep w B kb n q w'' k q' := ⟨h.at_, fun y hy => by have := c.size; rcases h.sub y hy with h1 | h1; exact .inl h1; exact .inr (by omega), (c.mono (by simp)).trans h.chg⟩
theorem KStep.scratch {w w' w'' : World} {B kb n : Nat} {k : Kn} {q q' : KQ} {L : List Nat} (h : KStep w B kb n q w' k q') (c : Chg L w' w'') (hL : ∀ y ∈ L, w.heap.size ≤ y ∧ y ∉ q'.all kb) : KStep w B kb n q w'' k q' :=
  ⟨h.at_.keep c (fun y hy hm => (hL y hm).2 hy), h.sub, h.chg.into c (fun y hy => .inr (hL y hy).1)⟩
theorem KAt.cells {w : World} {B kb n : Nat} {k : Kn} {q : KQ} (h : KAt w B kb n k q) : (w.cell? ⟨kb, 0, none⟩ = some (.slice q.la k.l.length q.lc) ∧ w.cell? ⟨kb, 1, none⟩ = some (.slice q.pa k.prio.length q.pc) ∧ w.cell? ⟨kb, 2, none⟩ = some (.pointer (some ⟨q.lb, 0, none⟩)) ∧ w.cell? ⟨kb, 3, none⟩ = some (.pointer (some ⟨q.ab, 0, none⟩))) ∧ w.cell? ⟨kb, 4, none⟩ = some (.map (some q.mb)) ∧ w.cell? ⟨kb, 5, none⟩ = some (.int .i64 k.now) ∧ w.cell? ⟨kb, 6, none⟩ = some (.bool k.opn) :=
  ⟨⟨h.box.cell rfl, h.box.cell rfl, h.box.cell rfl, h.box.cell rfl⟩, h.box.cell rfl, h.box.cell rfl, h.box.cell rfl⟩
def letM (k : Kn) (i : Nat) : Kn × Ev := ({ k with led := (relM k.led i k.now).1 }, if (relM k.led i k.now).2.2 = true then k.ev 1 i (relM k.led i k.now).2.1 0 else k.ev 3 i 0 0)
theorem letM_ok {k : Kn} {n : Nat} (h : KOK k n) (i : Nat) (hi : i < k.l.length) : KOK (letM k i).1 (n + 1) := by
  have hr := relM_ok h.led i k.now (by rw [h.ll]; exact hi) h.now.1 (by have := h.now.2; omega)
  refine ⟨hr.1, hr.2.trans h.ll, h.pl, h.now, h.due, h.dl, h.last, fun j hj => ?_⟩
  have h0 := h.now.1
  simp only [letM, relM] at hj
  split at hj
  · exact h.st j hj
  · rcases List.mem_append.1 hj with hj | hj
    · exact h.st j hj
    · obtain rfl := List.mem_singleton.1 hj
      exact h0
theorem KOK.mono {k : Kn} {n n' : Nat} (h : KOK k n) (hn : n ≤ n') : KOK k n' := by
  refine ⟨⟨h.led.act, by have := h.led.alen; omega, by have := h.led.olen; omega, h.led.llen, fun i v hv => by have := h.led.cnt i v hv; omega, h.led.now, fun j hj => by have := h.led.fit j hj; omega, h.led.fitl⟩, h.ll, h.pl, h.now, h.due, h.dl, h.last, h.st⟩
set_option maxHeartbeats 4000000 in
theorem let_any (B kb n : Nat) (k : Kn) (q : KQ) (i : Nat) (w : World) (h : KAt w B kb n k q) (hk : KOK k n) (hT : bitm.Tab w) (hi : i < k.l.length) (hn : n < 20000) (hB : B ≤ w.heap.size) :
    Calls Tryd.prog 27 #[.pointer (some ⟨kb, 0, none⟩), .int .i64 (i : Int)] w fun e w' => e = .returned (letM k i).2.val ∧ ∃ q', KStep w B kb (n + 1) q w' (letM k i).1 q' := by
  obtain ⟨W1, hW1⟩ : ∃ W1, w.alloc (.cells #[.int .i64 0, .int .i64 0, .int .i64 0, .int .i64 0, .int .i64 0] 41) = W1 := ⟨_, rfl⟩
  have HW1 : Hid (Chg [] w W1) := Lib.hid (by rw [← hW1]; exact (Chg.refl [] w).alloc _)
  have HBN : Hid (Blk W1 w.heap.size #[.int .i64 0, .int .i64 0, .int .i64 0, .int .i64 0, .int .i64 0] 41) := Lib.hid (by rw [← hW1]; exact Blk.new w _ _)
  have HS := Lib.hid (h.fresh HW1.out)
  have HR := Lib.hid (Release_any B q.lb n k.led q.lq i k.now (W1.drew) ((h.fresh HW1.out).fresh (Chg.refl _ _).drew).led hk.led (hT.keep ((HW1.out).drew)) (by rw [hk.ll]; exact hi) hk.now.1 (by have := hk.now.2; omega) hn (by have := HW1.out.size; simp; omega))
  have HLT := Lib.hid h.lt
  have HKO := Lib.hid hk
  clear h hk hT hi hn hB
  obtain ⟨⟨led', no, ok⟩, hrm⟩ : ∃ r, relM k.led i k.now = r := ⟨_, rfl⟩
  have HM : Hid (letM k i = ({ k with led := led' }, if ok = true then k.ev 1 i no 0 else k.ev 3 i 0 0)) := Lib.hid (by unfold letM; rw [hrm])
  have HRM := Lib.hid hrm
  go_enter Tryd.func27, Tryd.ntmps27
  go_upto_region 1 with fail
  try rw [hW1]
  clear hW1
  have hHeld : (fun V : World => Hid (V.cell? ⟨kb, 2, none⟩ = some (.pointer (some ⟨q.lb, 0, none⟩)) ∧ V.cell? ⟨kb, 5, none⟩ = some (.int .i64 k.now))) (World.drew W1) := Lib.hid ⟨HS.out.cells.1.2.2.1, HS.out.cells.2.2.1⟩
  refine wp_region_plan (fun V : World => Hid (V.cell? ⟨kb, 2, none⟩ = some (.pointer (some ⟨q.lb, 0, none⟩)) ∧ V.cell? ⟨kb, 5, none⟩ = some (.int .i64 k.now))) [(0, true, some 8), (1, true, some 9), (2, true, some 10), (3, true, some 11), (4, true, some 12), (5, true, some 13), (6, true, some 14), (7, true, some 15), (8, true, some 16), (9, false, some 17), (10, true, some 7), (11, true, some 18), (12, true, some 19), (13, true, some 5), (14, true, some 6)] (by kernel_rfl) (by kernel_rfl) (by kernel_rfl) (by kernel_rfl) (fun d c a v w h => by cases d <;> exact h) hHeld ?_
  repeat (first
    | (refine planWp_read (v := ?_) rfl rfl ?_ ?_ ?_; rotate_left; (focus rfl); (focus (intro u hSw; (try dsimp only at hSw); obtain ⟨h1, h2⟩ := hSw.out; go_simp; (try with_reducible rfl))); (try simp only [Act.put, List.setIfInBounds_toArray, List.set_cons_zero, List.set_cons_succ])))
  refine planWp_do rfl rfl ?_ (fun K hK => ?_)
  focus rfl
  go_simp
  go_wp2_with (go_at_call 43; refine HR.out.mono ?_; rintro e w2 ⟨rfl, ⟨lq', hl', hsub⟩, hc2⟩; rw [hrm] at hl' ⊢; have hk2 := ((HS.out.fresh (Chg.refl _ _).drew).withLed (Nat.le_succ n) hc2 led' lq' hl' hsub); have HK2 := Lib.hid hk2; have HC2 : Hid (Chg (q.lq.bs q.lb) W1 w2) := Lib.hid ((((Chg.refl _ W1).drew)).trans hc2); have HSB := Lib.hid hsub; clear hk2 hl' hsub hc2)
  refine hK.out _ _ ?_ (fun hHeld2 => ?_)
  focus exact Lib.hid ⟨HK2.out.cells.1.2.2.1, HK2.out.cells.2.2.1⟩
  clear hK K hHeld hHeld2
  try simp only [Act.put, List.setIfInBounds_toArray, List.set_cons_zero, List.set_cons_succ]
  repeat (first
    | (refine planWp_read (v := ?_) rfl rfl ?_ ?_ ?_; rotate_left; (focus rfl); (focus (intro u hSw; go_simp; (try with_reducible rfl))); (try simp only [Act.put, List.setIfInBounds_toArray, List.set_cons_zero, List.set_cons_succ])))
  refine planWp_nil ?_
  have HST : Hid (KStep W1 B kb (n + 1) q w2 { k with led := led' } { q with lq := lq' }) := Lib.hid ⟨HK2.out, fun y hy => by
    rcases List.mem_append.1 hy with h1 | h1
    · exact .inl (List.mem_append_left _ h1)
    · rcases HSB.out y h1 with h2 | h2
      · exact .inl (List.mem_append_right _ h2)
      · exact .inr h2, HC2.out.mono (fun y hy => List.mem_append_right _ hy)⟩
  have HNA : Hid (w.heap.size ∉ ({ q with lq := lq' } : KQ).all kb) := Lib.hid (fun hm => by
    have h9 := HBN.out.lt
    rcases HST.out.sub _ hm with h1 | h1
    · have := HLT.out _ h1; omega
    · omega)
  have HNB : Hid (w.heap.size ∉ q.lq.bs q.lb) := Lib.hid (fun hm => by
    have := HLT.out _ (List.mem_append_right _ hm); omega)
  clear hrm
  cases ok with
  | false =>
    go_wp2_with (first | (go_at_call 25; refine (event_any kb k.now _ _ _ _ _ HK2.out.cells.2.2.1).mono ?_; rintro e w3 ⟨rfl, hc3⟩; have HC3 := Lib.hid hc3; have hb3 := (HBN.out.keep HC2.out HNB.out).keep hc3 (by simp); have HB3 := Lib.hid hb3; clear hc3 hb3) | (refine Go.Proofs.YtfkokbeloenfdaaDoor.blk.wpList_store_blk rfl 41 (.tmp 4) (.tmp 24) rfl w.heap.size #[.int .i64 k.now, .int .i64 3, .int .i64 (i : Int), .int .i64 0, .int .i64 0] rfl rfl HB3.out szEv rfl (by simp [Value.oneCell']) ?_; intro w9 hb9 hc9; have HB9 := Lib.hid hb9; have HC9 := Lib.hid hc9; clear hb9 hc9))
    refine bodyPost_ret (results_row_one rfl _ _ w.heap.size 41 _ (0, 0) _ rfl HB9.out Tryd.underlying41 rfl szEv) rfl ?_
    rw [HM.out]
    exact ⟨rfl, { q with lq := lq' }, ((KStep.pre HW1.out HST.out).fresh HC3.out).scratch HC9.out (fun y hy => by rw [List.mem_singleton.1 hy]; exact ⟨Nat.le_refl _, HNA.out⟩)⟩
  | true =>
    go_wp2_with (first | (go_at_call 25; refine (event_any kb k.now _ _ _ _ _ HK2.out.cells.2.2.1).mono ?_; rintro e w3 ⟨rfl, hc3⟩; have HC3 := Lib.hid hc3; have hb3 := (HBN.out.keep HC2.out HNB.out).keep hc3 (by simp); have HB3 := Lib.hid hb3; clear hc3 hb3) | (refine Go.Proofs.YtfkokbeloenfdaaDoor.blk.wpList_store_blk rfl 41 (.tmp 4) (.tmp 28) rfl w.heap.size #[.int .i64 k.now, .int .i64 1, .int .i64 (i : Int), .int .i64 no, .int .i64 0] rfl rfl HB3.out szEv rfl (by simp [Value.oneCell']) ?_; intro w9 hb9 hc9; have HB9 := Lib.hid hb9; have HC9 := Lib.hid hc9; clear hb9 hc9))
    refine bodyPost_ret (results_row_one rfl _ _ w.heap.size 41 _ (0, 0) _ rfl HB9.out Tryd.underlying41 rfl szEv) rfl ?_
    rw [HM.out]
    exact ⟨rfl, { q with lq := lq' }, ((KStep.pre HW1.out HST.out).fresh HC3.out).scratch HC9.out (fun y hy => by rw [List.mem_singleton.1 hy]; exact ⟨Nat.le_refl _, HNA.out⟩)⟩
end Go.Proofs.YtfkokbeloenfdaaDoor.krn
