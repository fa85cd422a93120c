/- The kernel: step. -/
import Derived.Test.YtfkokbeloenfdaaDoorKrnV
namespace Go.Proofs.YtfkokbeloenfdaaDoor.krn
open Go Go.RowKit Go.Proofs.YtfkokbeloenfdaaDoor.kit Go.Shelf
set_option linter.unusedVariables false
set_option linter.unusedSimpArgs false
set_option maxRecDepth 20000
def stepK (k : Kn) (i : Nat) (at_ : Int) (ended : Bool) : Kn × List Ev :=
  if ended = true then ({ k with led := endM (stepM k.led i k.now) i k.now }, [k.ev 5 i (k.led.get i).no at_, k.ev 7 i (k.led.get i).no (k.now + 1 - (k.led.get i).rel)])
  else ({ k with led := stepM k.led i k.now }, [k.ev 5 i (k.led.get i).no at_])
def OwnE (w : World) (B : Nat) (v : Value) (xs : List Ev) : Prop := w.ownsRow B 41 5 v xs.length (xs.flatMap Ev.cells)
theorem infoEv : (Tryd.prog.info? 41).map (fun i => (i.zero, i.size, i.bytes)) = some (some (.agg #[.int .i64 0, .int .i64 0, .int .i64 0, .int .i64 0, .int .i64 0]), 5, 40) := by kernel_rfl
theorem own_new {w : World} {B b sz : Nat} {cs : Array Value} {T : TypeId} (h : Blk w b cs T) (hB : B ≤ b) (hs : cs.size = sz) : w.ownsRow B T sz (.slice (some ⟨b, 0, none⟩) 1 1) 1 cs.toList :=
  ⟨by simp [hs], .inr ⟨b, 1, cs, rfl, hB, h, Nat.le_refl _, by decide, by simp [hs], by rw [Nat.one_mul, ← hs]; exact List.take_length⟩⟩
theorem OwnE.snoc {w : World} {B : Nat} {v : Value} {xs : List Ev} {e : Ev} (h : w.ownsRow B 41 5 v (xs.length + 1) (xs.flatMap Ev.cells ++ e.cells)) : OwnE w B v (xs ++ [e]) := by
  unfold OwnE
  rw [List.length_append, List.flatMap_append]
  simpa using h
theorem ev_cells (w : World) (e : Ev) : ∀ (j : Nat) u, e.cells[j]? = some u → (w.alloc (.cells #[.int .i64 e.t, .int .i64 e.kind, .int .i64 e.task, .int .i64 e.a, .int .i64 e.b] 41)).cell? ((⟨w.heap.size, 0, none⟩ : Addr).add j) = some u := fun j u hj => by
  rw [Go.Proofs.YtfkokbeloenfdaaDoor.kit.add_plain, Nat.zero_add]
  exact (Blk.new w _ _).cell (by rw [← Array.getElem?_toList]; exact hj)
theorem stepM_ok {s : Led} {n : Nat} (h : LedOK s n) (i : Nat) (t : Int) (hb : s.act.testBit i = true) (hs : ∀ j ∈ s.all, j.steps ≤ 2000) : LedOK (stepM s i t) n ∧ (stepM s i t).get i = stepJ (s.get i) t := by
  obtain ⟨j, x, h1, h2, h3, h4⟩ := h.job hb
  have hf := h.fit x (List.mem_of_getElem? h2)
  have hst := hs x (List.mem_of_getElem? h2)
  have hn := nowj_of h1
  constructor
  · unfold stepM
    refine h.setJob _ _ ?_
    rw [h4]
    simp only [stepJ]
    omega
  · have h5 : (stepM s i t).all[j]? = some (stepJ (s.get i) t) := by
      show (s.all.set (s.nowj i) _)[j]? = _
      rw [hn]; exact set_at h2 _
    exact Led.get_of (s := stepM s i t) hb h1 h5
set_option maxHeartbeats 4000000 in
theorem step_any (B kb n : Nat) (k : Kn) (q : KQ) (i : Nat) (at_ : Int) (ended : Bool) (w : World) (h : KAt w B kb n k q) (hk : KOK k n) (hT : bitm.Tab w) (hb : k.led.act.testBit i = true) (hB : B ≤ w.heap.size) :
    Calls Tryd.prog 33 #[.pointer (some ⟨kb, 0, none⟩), .int .i64 (i : Int), .int .i64 at_, .bool ended] w fun e w' => ∃ v, e = .returned v ∧ OwnE w' w.heap.size v (stepK k i at_ ended).2 ∧ KStep w B kb n q w' (stepK k i at_ ended).1 q := by
  obtain ⟨⟨c0, c1, c2, c3⟩, c4, c5, c6⟩ := h.cells
  have hi : i < 8 := bit_lt hk.led.act hb
  have HS := Lib.hid (⟨h, hk, hb⟩ : _ ∧ _ ∧ _)
  have HLT := Lib.hid h.lt
  have HOK1 := Lib.hid (stepM_ok hk.led i k.now hb (fun j hj => by have h1 := hk.st j hj; have h2 := hk.now.2; omega))
  have HJ := Lib.hid (Job_any B q.lb n k.led q.lq i w h.led hk.led (by omega))
  have HST := Lib.hid (fun V (hV : Chg [] w V) => Step_any B q.lb n k.led q.lq i k.now V ((h.fresh hV).led) hk.led hb hk.now.1 (by have := hk.now.2; omega))
  obtain ⟨x, hx⟩ : ∃ x, k.led.get i = x := ⟨_, rfl⟩
  have HX := Lib.hid hx
  have hfx : 0 ≤ x.rel ∧ x.rel ≤ 4096 := by
    obtain ⟨j, y, h1, h2, h3, h4⟩ := hk.led.job hb
    have := (hk.led.fit y (List.mem_of_getElem? h2)).1
    rw [h4] at hx; subst hx; exact this
  rw [hx, hb] at HJ
  have now0 := hk.now.1
  have now1 := hk.now.2
  obtain ⟨x0, x1, x2, x3, x4, x5, x6, x7⟩ := x
  simp only at hfx
  obtain ⟨r0, r1⟩ := hfx
  clear h hk hT hb hB hi hx c0 c1 c3 c4 c6
  go_enter Tryd.func33, Tryd.ntmps33
  go_upto_region 2 with (first
    | (go_at_call 13; refine HJ.out.mono ?_; rintro e w2 ⟨rfl, hc2⟩; have HC2 := Lib.hid hc2; have HBZ := Lib.hid (Blk.new w2 #[.int .i64 0, .int .i64 0, .int .i64 0, .int .i64 0, .int .i64 0, .int .i64 0, .int .i64 0, .bool false] 60); clear hc2)
    | (refine Go.Proofs.YtfkokbeloenfdaaDoor.blk.wpList_store_blk rfl 60 (.tmp 9) (.tmp 19) rfl w2.heap.size #[.int .i64 x0, .int .i64 x1, .int .i64 x2, .int .i64 x3, .int .i64 x4, .int .i64 x5, .int .i64 x6, .bool x7] rfl rfl HBZ.out szJob rfl (by simp [Value.oneCell']) ?_; intro w3 hb3 hc3; have HB3 := Lib.hid hb3; have HC3 := Lib.hid hc3; clear hb3 hc3))
  have hcw3 : Chg [] w w3 := (HC2.out.alloc _).into HC3.out (fun y hy => .inr (by rw [List.mem_singleton.1 hy]; exact HC2.out.size))
  have HK3 := Lib.hid (HS.out.1.fresh hcw3)
  have HCW3 := Lib.hid hcw3
  have HJB : Hid (w.heap.size ≤ w2.heap.size) := Lib.hid HC2.out.size
  obtain ⟨jb, hjb⟩ : ∃ z, w2.heap.size = z := ⟨_, rfl⟩
  rw [hjb] at HB3 HJB ⊢
  clear hcw3 hjb HC3 HBZ HC2 c2 c5
  have hHeld : (fun V : World => Hid (V.cell? ⟨kb, 2, none⟩ = some (.pointer (some ⟨q.lb, 0, none⟩)) ∧ V.cell? ⟨kb, 5, none⟩ = some (.int .i64 k.now))) (World.drew w3) := Lib.hid ⟨HK3.out.cells.1.2.2.1, HK3.out.cells.2.2.1⟩
  refine wp_region_plan (fun V : World => Hid (V.cell? ⟨kb, 2, none⟩ = some (.pointer (some ⟨q.lb, 0, none⟩)) ∧ V.cell? ⟨kb, 5, none⟩ = some (.int .i64 k.now))) [(0, true, some 21), (1, true, some 22), (2, true, some 23), (3, true, some 24), (4, true, some 25), (5, true, some 26), (6, true, some 27), (7, true, some 28), (8, true, some 29), (9, false, some 30)] (by kernel_rfl) (by kernel_rfl) (by kernel_rfl) (by kernel_rfl) (fun d c a v w h => by cases d <;> exact h) hHeld ?_
  repeat (first
    | (refine planWp_read (v := ?_) rfl rfl ?_ ?_ ?_; rotate_left; (focus rfl); (focus (intro u hSw; (try dsimp only at hSw); obtain ⟨h1, h2⟩ := hSw.out; go_simp; (try with_reducible rfl))); (try simp only [Act.put, List.setIfInBounds_toArray, List.set_cons_zero, List.set_cons_succ])))
  refine planWp_do rfl rfl ?_ (fun K hK => ?_)
  focus rfl
  go_simp
  go_wp2_with (go_at_call 46; refine (HST.out _ (HCW3.out.drew)).mono ?_; rintro e w4 ⟨⟨rv, rfl⟩, hl4, hc4⟩; have HC4 : Hid (Chg (q.lq.aa.map (·.block)).toList w3 w4) := Lib.hid (((Chg.refl _ w3).drew).trans hc4); have HL4 := Lib.hid hl4; clear hl4 hc4)
  have HAA : Hid (∀ y ∈ (q.lq.aa.map (·.block)).toList, y ∈ q.lq.bs q.lb) := Lib.hid (fun y hy => by simp only [LedQ.bs, List.mem_cons, List.mem_append]; exact .inr (.inr (.inr (.inl (.inr hy)))))
  have HK4 : Hid (KAt w4 B kb n { k with led := stepM k.led i k.now } q) := Lib.hid (HK3.out.withLed (Nat.le_refl n) (HC4.out.mono HAA.out) _ q.lq HL4.out (fun y hy => .inl hy))
  refine hK.out _ _ ?_ (fun hHeld2 => ?_)
  focus exact Lib.hid ⟨HK4.out.cells.1.2.2.1, HK4.out.cells.2.2.1⟩
  clear hK K hHeld hHeld2
  try simp only [Act.put, List.setIfInBounds_toArray, List.set_cons_zero, List.set_cons_succ]
  refine planWp_nil ?_
  have HST4 : Hid (KStep w B kb n q w4 { k with led := stepM k.led i k.now } q) := Lib.hid ⟨HK4.out, fun y hy => .inl hy, (HCW3.out.mono (by simp)).trans (HC4.out.mono (fun y hy => List.mem_append_right _ (HAA.out y hy)))⟩
  have HB4 : Hid (Blk w4 jb #[.int .i64 x0, .int .i64 x1, .int .i64 x2, .int .i64 x3, .int .i64 x4, .int .i64 x5, .int .i64 x6, .bool x7] 60) := Lib.hid (HB3.out.keep HC4.out (fun hm => by have h1 := HLT.out jb (List.mem_append_right _ (HAA.out _ hm)); have h2 := HJB.out; omega))
  have y1 : w4.cell? ⟨jb, 1, none⟩ = some (.int .i64 x1) := HB4.out.cell rfl
  cases ended with
  | false =>
    go_wp2_with (go_at_call 25; refine (event_any kb k.now _ _ _ _ _ HK4.out.cells.2.2.1).mono ?_; rintro e w5 ⟨rfl, hc5⟩; have HC5 := Lib.hid hc5; clear hc5)
    go_ret
    have hx := HX.out
    have hown : OwnE (w5.alloc (.cells #[.int .i64 k.now, .int .i64 5, .int .i64 (i : Int), .int .i64 x1, .int .i64 at_] 41)) w.heap.size (.slice (some ⟨w5.heap.size, 0, none⟩) 1 1) [k.ev 5 i x1 at_] := own_new (Blk.new w5 _ _) (Nat.le_trans HST4.out.chg.size HC5.out.size) rfl
    unfold stepK
    rw [if_neg (by decide), hx]
    exact ⟨_, rfl, hown, HST4.out.fresh (HC5.out.alloc _)⟩
  | true =>
    go_upto_region 5 with (go_at_call 25; refine (event_any kb k.now _ _ _ _ _ HK4.out.cells.2.2.1).mono ?_; rintro e w5 ⟨rfl, hc5⟩; have HC5 := Lib.hid hc5; clear hc5)
    obtain ⟨w6, hw6⟩ : ∃ z, w5.alloc (.cells #[.int .i64 k.now, .int .i64 5, .int .i64 (i : Int), .int .i64 x1, .int .i64 at_] 41) = z := ⟨_, rfl⟩
    have HC6 : Hid (Chg [] w4 w6) := Lib.hid (by rw [← hw6]; exact HC5.out.alloc _)
    have hown : OwnE w6 w.heap.size (.slice (some ⟨w5.heap.size, 0, none⟩) 1 1) [k.ev 5 i x1 at_] := by rw [← hw6]; exact own_new (Blk.new w5 _ _) (Nat.le_trans HST4.out.chg.size HC5.out.size) rfl
    rw [hw6]
    have HOWN := Lib.hid hown
    have HEB : Hid (w4.heap.size ≤ w5.heap.size ∧ w5.heap.size < w6.heap.size) := Lib.hid ⟨HC5.out.size, by rw [← hw6]; simp⟩
    obtain ⟨eb, heb⟩ : ∃ z, w5.heap.size = z := ⟨_, rfl⟩
    rw [heb] at HOWN HEB ⊢
    have HK6 := Lib.hid (HK4.out.fresh HC6.out)
    have HB6 := Lib.hid (HB4.out.keep HC6.out (by simp))
    obtain ⟨z4, hz4⟩ : ∃ z, (if x6 = 0 then k.now else x4) = z := ⟨_, rfl⟩
    have HEND : Hid (∀ V, Chg [] w6 V → Calls Tryd.prog 47 #[.pointer (some ⟨q.lb, 0, none⟩), .int .i64 (i : Int), .int .i64 k.now] V fun e w' => e = .returned (.tuple #[.agg #[.int .i64 x0, .int .i64 x1, .int .i64 x2, .int .i64 x3, .int .i64 z4, .int .i64 (k.now + 1), .int .i64 (x6 + 1), .bool x7], .bool true]) ∧ LedAt w' B q.lb n (endM (stepM k.led i k.now) i k.now) q.lq ∧ Chg (q.lb :: q.lq.nb :: (q.lq.aa.map (·.block)).toList) V w') := Lib.hid (fun V hV => by
      have h1 := End_any B q.lb n (stepM k.led i k.now) q.lq i k.now V ((HK6.out.fresh hV).led) HOK1.out.1 HS.out.2.2 now0 (by omega)
      rw [HOK1.out.2, HX.out] at h1
      simp only [stepJ, hz4, Jb.val, Jb.cells] at h1
      exact h1)
    have HX2 : Hid (True) := Lib.hid trivial
    clear hown hw6 heb hz4 y1 HC5
    have hHeld : (fun V : World => Hid (V.cell? ⟨kb, 2, none⟩ = some (.pointer (some ⟨q.lb, 0, none⟩)) ∧ V.cell? ⟨kb, 5, none⟩ = some (.int .i64 k.now))) (World.drew w6) := Lib.hid ⟨HK6.out.cells.1.2.2.1, HK6.out.cells.2.2.1⟩
    refine wp_region_plan (fun V : World => Hid (V.cell? ⟨kb, 2, none⟩ = some (.pointer (some ⟨q.lb, 0, none⟩)) ∧ V.cell? ⟨kb, 5, none⟩ = some (.int .i64 k.now))) [(0, true, some 40), (1, true, some 41), (2, true, some 42), (3, true, some 43), (4, true, some 44), (5, true, some 45), (6, true, some 46), (7, true, some 47), (8, true, some 48), (9, false, some 49), (10, true, some 39), (11, true, some 50), (12, true, some 51), (13, false, none)] (by kernel_rfl) (by kernel_rfl) (by kernel_rfl) (by kernel_rfl) (fun d c a v w h => by cases d <;> exact h) hHeld ?_
    repeat (first
      | (refine planWp_read (v := ?_) rfl rfl ?_ ?_ ?_; rotate_left; (focus rfl); (focus (intro u hSw; (try dsimp only at hSw); obtain ⟨h1, h2⟩ := hSw.out; go_simp; (try with_reducible rfl))); (try simp only [Act.put, List.setIfInBounds_toArray, List.set_cons_zero, List.set_cons_succ])))
    refine planWp_do rfl rfl ?_ (fun K hK => ?_)
    focus rfl
    go_simp
    go_wp2_with (go_at_call 47; refine (HEND.out _ ((Chg.refl _ w6).drew)).mono ?_; rintro e w7 ⟨rfl, hl7, hc7⟩; have HC7 : Hid (Chg (q.lb :: q.lq.nb :: (q.lq.aa.map (·.block)).toList) w6 w7) := Lib.hid (((Chg.refl _ w6).drew).trans hc7); have HL7 := Lib.hid hl7; clear hl7 hc7)
    have HEN : Hid (∀ y ∈ q.lb :: q.lq.nb :: (q.lq.aa.map (·.block)).toList, y ∈ q.lq.bs q.lb) := Lib.hid (fun y hy => by
      rcases List.mem_cons.1 hy with rfl | hy
      · simp [LedQ.bs]
      · rcases List.mem_cons.1 hy with rfl | hy
        · simp [LedQ.bs]
        · exact HAA.out y hy)
    have HK7 : Hid (KAt w7 B kb n { k with led := endM (stepM k.led i k.now) i k.now } q) := Lib.hid (HK6.out.withLed (Nat.le_refl n) (HC7.out.mono HEN.out) _ q.lq HL7.out (fun y hy => .inl hy))
    refine hK.out _ _ ?_ (fun hHeld2 => ?_)
    focus exact Lib.hid ⟨HK7.out.cells.1.2.2.1, HK7.out.cells.2.2.1⟩
    clear hK K hHeld hHeld2
    try simp only [Act.put, List.setIfInBounds_toArray, List.set_cons_zero, List.set_cons_succ]
    repeat (first
      | (refine planWp_read (v := ?_) rfl rfl ?_ ?_ ?_; rotate_left; (focus rfl); (focus (intro u hSw; (try dsimp only at hSw); obtain ⟨h1, h2⟩ := hSw.out; go_simp; (try with_reducible rfl))); (try simp only [Act.put, List.setIfInBounds_toArray, List.set_cons_zero, List.set_cons_succ])))
    have HB7 := Lib.hid (HB6.out.keep HC7.out (fun hm => by have h1 := HLT.out jb (List.mem_append_right _ (HEN.out _ hm)); have h2 := HJB.out; omega))
    refine planWp_do rfl rfl ?_ (fun K hK => ?_)
    focus rfl
    refine Go.Proofs.YtfkokbeloenfdaaDoor.blk.wp_store_blk 60 (.tmp 9) (.tmp 50) rfl jb #[.int .i64 x0, .int .i64 x1, .int .i64 x2, .int .i64 x3, .int .i64 z4, .int .i64 (k.now + 1), .int .i64 (x6 + 1), .bool x7] rfl rfl HB7.out szJob rfl (by simp [Value.oneCell']) ?_
    intro w8 hb8 hc8
    have HK8 : Hid (KAt w8 B kb n { k with led := endM (stepM k.led i k.now) i k.now } q) := Lib.hid (HK7.out.keep hc8 (fun y hy hm => by have h1 := HLT.out y hy; have h2 := HJB.out; have := List.mem_singleton.1 hm; omega))
    have HB8 := Lib.hid hb8
    have HC8 := Lib.hid hc8
    refine hK.out _ _ ?_ (fun hHeld2 => ?_)
    focus exact Lib.hid ⟨HK8.out.cells.1.2.2.1, HK8.out.cells.2.2.1⟩
    clear hK K hHeld2 hb8 hc8
    try simp only [Act.put, List.setIfInBounds_toArray, List.set_cons_zero, List.set_cons_succ]
    refine planWp_nil ?_
    have z1 : w8.cell? ⟨jb, 1, none⟩ = some (.int .i64 x1) := HB8.out.cell rfl
    have z2 : w8.cell? ⟨jb, 2, none⟩ = some (.int .i64 x2) := HB8.out.cell rfl
    have z5 : w8.cell? ⟨jb, 5, none⟩ = some (.int .i64 (k.now + 1)) := HB8.out.cell rfl
    have HO8 : Hid (OwnE w8 w.heap.size (.slice (some ⟨eb, 0, none⟩) 1 1) [k.ev 5 i x1 at_]) := Lib.hid (by
      have hjb := HB4.out.lt
      have he1 := HEB.out.1
      have hw4 := HST4.out.chg.size
      refine own_keep (own_keep HOWN.out HC7.out (fun y hy hm => ?_)) HC8.out (fun y hy hm => ?_)
      · simp only [Value.ownBlock, Option.map_some, Option.some.injEq] at hy
        have h1 := HLT.out _ (List.mem_append_right _ (HEN.out _ hm)); omega
      · simp only [Value.ownBlock, Option.map_some, Option.some.injEq] at hy
        have := List.mem_singleton.1 hm; omega)
    have HSZ : Hid (w.heap.size ≤ w8.heap.size) := Lib.hid (by have h1 := HST4.out.chg.size; have h2 := HC6.out.size; have h3 := HC7.out.size; have h4 := HC8.out.size; omega)
    obtain ⟨i0, hi0, hz0, hz1, hz2⟩ := info_parts infoEv
    have h63 : 0 ≤ k.now + 1 - x2 + 9223372036854775808 := by omega
    go_wp2_with (first
      | (go_at_call 25; refine (event_any kb k.now _ _ _ _ _ HK8.out.cells.2.2.1).mono ?_; rintro e w9 ⟨rfl, hc9⟩; have HC9 := Lib.hid hc9; have hcc := ev_cells w9 ⟨k.now, 7, i, x1, k.now + 1 - x2⟩; have hOA : OwnE (w9.alloc (.cells #[.int .i64 k.now, .int .i64 7, .int .i64 (i : Int), .int .i64 x1, .int .i64 (k.now + 1 - x2)] 41)) w.heap.size (.slice (some ⟨eb, 0, none⟩) 1 1) [k.ev 5 i x1 at_] := own_keep HO8.out (hc9.alloc _) (by simp); have hb3 : w.heap.size ≤ (w9.alloc (.cells #[.int .i64 k.now, .int .i64 7, .int .i64 (i : Int), .int .i64 x1, .int .i64 (k.now + 1 - x2)] 41)).heap.size := (by rw [World.size_alloc]; have h1 := HSZ.out; have h2 := hc9.size; omega); clear hc9)
      | (at_builtin; refine wpList_append_own_at _ rfl (.tmp 52) (.tmp 63) 36 rfl w.heap.size 41 i0 (.agg #[.int .i64 0, .int .i64 0, .int .i64 0, .int .i64 0, .int .i64 0]) 5 40 Tryd.underlying36 hi0 hz0 hz1 hz2 rfl (by decide) (.slice (some ⟨eb, 0, none⟩) 1 1) 1 _ rfl hOA ⟨w9.heap.size, 0, none⟩ 1 1 _ rfl rfl hcc (by simp [Value.oneCell', Ev.cells]) (by decide) (by decide) hb3 ?_; intro v' w' hown' hgrow hnil hblk; have HKA := Lib.hid (((Chg.refl (Value.slice (some ⟨eb, 0, none⟩) 1 1).ownBlock.toList w9).alloc (.cells #[.int .i64 k.now, .int .i64 7, .int .i64 (i : Int), .int .i64 x1, .int .i64 (k.now + 1 - x2)] 41)).grown hgrow (fun k hk => .inl (Option.mem_toList.2 hk))); have HON := Lib.hid hown'; clear hown' hgrow hnil hblk))
    go_ret
    have hna : ∀ b, w.heap.size ≤ b → b ∉ q.all kb := fun b hb hm => by have := HLT.out b hm; omega
    have s6 := HST4.out.fresh HC6.out
    have s7 := s6.trans (k' := { k with led := endM (stepM k.led i k.now) i k.now }) ⟨HK7.out, fun y hy => .inl hy, HC7.out.mono (fun y hy => List.mem_append_right _ (HEN.out y hy))⟩
    have s8 := (s7.scratch HC8.out (fun y hy => by rw [List.mem_singleton.1 hy]; exact ⟨HJB.out, hna _ HJB.out⟩)).fresh HC9.out
    have heb : w.heap.size ≤ eb := Nat.le_trans HST4.out.chg.size HEB.out.1
    have s9 := s8.scratch HKA.out (fun y hy => by
      have hy2 : y = eb := by simpa [Value.ownBlock] using hy
      rw [hy2]; exact ⟨heb, hna _ heb⟩)
    unfold stepK
    rw [if_pos rfl, HX.out]
    exact ⟨_, rfl, OwnE.snoc (xs := [k.ev 5 i x1 at_]) (e := k.ev 7 i x1 (k.now + 1 - x2)) HON.out, s9⟩
end Go.Proofs.YtfkokbeloenfdaaDoor.krn
