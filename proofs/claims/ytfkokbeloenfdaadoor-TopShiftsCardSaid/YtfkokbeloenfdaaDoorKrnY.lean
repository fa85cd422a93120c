/- The kernel: Open. -/
import Derived.Test.YtfkokbeloenfdaaDoorKrnX
import Derived.Test.YtfkokbeloenfdaaDoorKrnYa
namespace Go.Proofs.YtfkokbeloenfdaaDoor.krn
open Go Go.RowKit Go.Proofs.YtfkokbeloenfdaaDoor.kit Go.Shelf
set_option linter.unusedVariables false
set_option linter.unusedSimpArgs false
set_option maxRecDepth 20000
def lateE (k : Kn) (i : Nat) : Ev := k.ev 4 i (k.led.get i).no 0
def openA (k : Kn) : Kn × List Ev := ({ k with opn := true, led := (lateM k.led k.now).1 }, (lateM k.led k.now).2.map (lateE { k with opn := true, led := (lateM k.led k.now).1 }))
def dueF (p : Kn × List Ev) (d : Du) : Kn × List Ev :=
  ({ (letM p.1 d.task.toNat).1 with due := pushM (p.1.l.length : Int) p.1.due ⟨d.at_ + perM p.1 d.task, d.task⟩ }, p.2 ++ [(letM p.1 d.task.toNat).2])
def askF (p : Kn × List Ev) (a : Int) : Kn × List Ev :=
  if (passM p.1 a).2 = true then ((letM (passM p.1 a).1 a.toNat).1, p.2 ++ [(letM (passM p.1 a).1 a.toNat).2]) else (p.1, p.2 ++ [p.1.ev 2 a 0 0])
def openM (k : Kn) (asks : List Int) : Kn × List Ev :=
  asks.foldl askF ((untilM k.now k.due).1.foldl dueF ({ (openA k).1 with due := (untilM k.now k.due).2 }, (openA k).2))
theorem lateF_keep {s : Led} {n : Nat} (h : LedOK s n) (t c : Int) : ∀ (l : List Nat) (out : List Nat) (s' : Led), LedOK s' n → s'.act = s.act → s'.now = s.now → s'.l = s.l → (∀ i ∈ l, s.act.testBit i = true) → (∀ i ∈ out, s.act.testBit i = true) → (∀ j ∈ s'.all, j.steps ≤ c) →
    LedOK (l.foldl (lateF t) (s', out)).1 n ∧ (l.foldl (lateF t) (s', out)).1.act = s.act ∧ (l.foldl (lateF t) (s', out)).1.l = s.l ∧ (∀ i ∈ (l.foldl (lateF t) (s', out)).2, s.act.testBit i = true) ∧ (l.foldl (lateF t) (s', out)).2.length ≤ out.length + l.length ∧ (∀ j ∈ (l.foldl (lateF t) (s', out)).1.all, j.steps ≤ c) := by
  intro l
  induction l with
  | nil => intro out s' h1 h2 h3 h4 _ h6 h7; exact ⟨h1, h2, h4, h6, by simp, h7⟩
  | cons i l ih =>
    intro out s' h1 h2 h3 h4 h5 h6 h7
    rw [List.foldl_cons]
    have hb : s'.act.testBit i = true := by rw [h2]; exact h5 i (by simp)
    obtain ⟨j, x, g1, g2, g3, g4⟩ := h1.job hb
    have hf := lateF_ok (out := out) h1 t i hb
    obtain ⟨⟨s1, o1⟩, hl⟩ : ∃ z, lateF t (s', out) i = z := ⟨_, rfl⟩
    rw [hl] at hf ⊢
    have hmem : (∀ y ∈ o1, s.act.testBit y = true) ∧ (∀ y ∈ s1.all, y.steps ≤ c) := by
      by_cases hc : ((s', out).1.get i).missed = false ∧ ((s', out).1.get i).dl ≤ t
      · rw [show lateF t (s', out) i = ({ s' with all := s'.all.set (s'.nowj i) { s'.get i with missed := true } }, out ++ [i]) from if_pos hc] at hl
        cases hl
        refine ⟨fun y hy => ?_, fun y hy => ?_⟩
        · rcases List.mem_append.1 hy with hy | hy
          · exact h6 y hy
          · rw [List.mem_singleton.1 hy]; exact h5 i (by simp)
        · rcases List.mem_or_eq_of_mem_set hy with hy | rfl
          · exact h7 y hy
          · show (s'.get i).steps ≤ c
            rw [g4]; exact h7 x (List.mem_of_getElem? g2)
      · rw [show lateF t (s', out) i = (s', out) from if_neg hc] at hl
        cases hl
        exact ⟨h6, h7⟩
    have h8 := ih o1 s1 hf.1 (hf.2.1.trans h2) (hf.2.2.1.trans h3) (hf.2.2.2.1.trans h4) (fun y hy => h5 y (by simp [hy])) hmem.1 hmem.2
    refine ⟨h8.1, h8.2.1, h8.2.2.1, h8.2.2.2.1, Nat.le_trans h8.2.2.2.2.1 ?_, h8.2.2.2.2.2⟩
    have h9 : o1.length ≤ out.length + 1 := hf.2.2.2.2
    simp only [List.length_cons]; omega
theorem KAt.ne_ev {w : World} {B kb n : Nat} {k : Kn} {q : KQ} (h : KAt w B kb n k q) {B' m : Nat} {v : Value} {xs : List Value} (ho : w.ownsRow B' 41 5 v m xs) : ∀ y, v.ownBlock = some y → y ∉ q.all kb := by
  intro y hy hm
  have rw1 : ∀ {a : Option Addr} {n c : Nat}, a.map (·.block) = some y → (Value.slice a n c).ownBlock = some y := fun h => by rw [own_slice]; exact h
  rcases List.mem_append.1 hm with hm | hm
  · rcases KQ.mem hm with h1 | h1 | h1 | h1 | h1 | h1
    · exact own_type ho h.box (by decide) y hy h1
    · exact own_type ho h.ag.1 (by decide) y hy h1
    · exact h.ml.ne_row ho y hy h1
    · exact own_type2 h.rl ho (by decide) y (rw1 h1) hy
    · exact own_type2 h.rp ho (by decide) y (rw1 h1) hy
    · exact own_type2 h.ag.2 ho (by decide) y (rw1 h1) hy
  · rcases LedQ.mem hm with h1 | h1 | h1 | h1 | h1 | h1
    · exact own_type ho h.led.box (by decide) y hy h1
    · exact h.led.mn.ne_row ho y hy h1
    · exact h.led.mc.ne_row ho y hy h1
    · exact own_type2 h.led.rl ho (by decide) y (rw1 h1) hy
    · exact own_type2 h.led.ra ho (by decide) y (rw1 h1) hy
    · exact own_type2 h.led.ro ho (by decide) y (rw1 h1) hy
theorem KAt.opens {w : World} {B kb n : Nat} {k : Kn} {q : KQ} (h : KAt w B kb n k q) (b : Bool) : KAt (w.setCell ⟨kb, 6, none⟩ (.bool b)) B kb n { k with opn := b } q :=
  h.withBox ((Chg.refl _ w).setCell (.inl (by simp)) _) k.now b (h.box.set 6 (.bool b))
theorem OwnE.snocS {w : World} {B c : Nat} {a : Option Addr} {xs : List Ev} {e : Ev} (h : w.ownsRow B 41 5 (.slice a (xs.length + 1) c) (xs.length + 1) (xs.flatMap Ev.cells ++ e.cells)) : OwnE w B (.slice a (xs ++ [e]).length c) (xs ++ [e]) := by
  rw [show (xs ++ [e]).length = xs.length + 1 by simp]
  exact OwnE.snoc h
theorem dueF_ok {p : Kn × List Ev} {n : Nat} (h : KOK p.1 n) (d : Du) (h0 : 0 ≤ d.at_ ∧ d.at_ ≤ 2000) (h1 : 0 ≤ d.task ∧ d.task < p.1.l.length) : KOK (dueF p d).1 (n + 1) ∧ (dueF p d).1.l = p.1.l ∧ (dueF p d).1.now = p.1.now ∧ (dueF p d).1.opn = p.1.opn ∧ (dueF p d).1.prio = p.1.prio := by
  have h2 := letM_ok h d.task.toNat (by omega)
  have hper : 0 ≤ perM p.1 d.task ∧ perM p.1 d.task ≤ 1048576 := by
    unfold perM
    have hlt : d.task.toNat < p.1.l.length := by omega
    rw [List.getElem?_eq_getElem hlt]
    have := (h.led.fitl _ (by rw [h.ll]; exact List.getElem_mem hlt)).1
    simp only [Option.map_some, Option.getD_some]
    omega
  refine ⟨⟨h2.led, h2.ll, h2.pl, h2.now, ?_, ?_, h2.last, h2.st⟩, rfl, rfl, rfl, rfl⟩
  · exact pushM_all h.due ⟨by simp only; omega, h1⟩
  · have := pushM_len (room := (p.1.l.length : Int)) (ds := p.1.due) (d := ⟨d.at_ + perM p.1 d.task, d.task⟩) (by have := h.dl; omega)
    exact Int.ofNat_le.1 this
theorem tab_keep {w w' : World} {L : List Nat} (h : bitm.Tab w) (c : Chg L w w') (h0 : 0 ∉ L) : bitm.Tab w' := fun j hj => c.keep (h j hj) h0
theorem KAt.tab {w : World} {B kb n : Nat} {k : Kn} {q : KQ} (h : KAt w B kb n k q) (hT : bitm.Tab w) (hB : 1 ≤ B) : 0 ∉ q.all kb := by
  have h0 := hT 0 (by decide)
  have hm : ∀ {b n : Nat} {f : Int → Option Int}, MapI w b n f → b ≠ 0 := by
    rintro b n f ⟨D, ⟨es, clock, hb, r⟩, h2⟩ rfl
    simp [World.cell?, hb] at h0
  have hr : ∀ {s n c : Nat} {T : TypeId} {a : Option Addr} {m : Nat} {xs : List Value}, w.ownsRow B T s (.slice a m c) n xs → a.map (·.block) ≠ some 0 := fun ho he => by
    have := (World.ownsRow.lt ho 0 (by rw [own_slice]; exact he)).1; omega
  have hb : ∀ {b : Nat} {c : Array Value} {T : TypeId} {v : Value}, Blk w b c T → c[0]? = some v → (∀ a b, v ≠ .int a b) → b ≠ 0 := by
    rintro b c T v hb hc hv rfl
    have h1 := hb.cell hc
    rw [h1] at h0
    cases h0
    exact hv _ _ rfl
  have hage : q.ab ≠ 0 := by
    rintro he
    have h1 := h.ag.1.cell (o := 0) rfl
    rw [he, h0] at h1
    cases h1
  intro h9
  rcases List.mem_append.1 h9 with h9 | h9
  · rcases KQ.mem h9 with h1 | h1 | h1 | h1 | h1 | h1
    · exact hb h.box rfl (by simp) h1.symm
    · exact hage h1.symm
    · exact hm h.ml h1.symm
    · exact hr h.rl h1
    · exact hr h.rp h1
    · exact hr h.ag.2 h1
  · rcases LedQ.mem h9 with h1 | h1 | h1 | h1 | h1 | h1
    · exact hb h.led.box rfl (by simp) h1.symm
    · exact hm h.led.mn h1.symm
    · exact hm h.led.mc h1.symm
    · exact hr h.led.rl h1
    · exact hr h.led.ra h1
    · exact hr h.led.ro h1
theorem KStep.tab {w w' : World} {B kb n : Nat} {k' : Kn} {q q' : KQ} (h : KStep w B kb n q w' k' q') (hT : bitm.Tab w) (h0 : 0 ∉ q.all kb) : bitm.Tab w' ∧ 0 ∉ q'.all kb :=
  ⟨tab_keep hT h.chg h0, fun hm => by have := hT.pos; rcases h.sub 0 hm with h1 | h1; exact h0 h1; omega⟩
theorem reads_open {w : World} {s n : Nat} {v : Value} {xs : List Value} (h : Reads w s v n xs) : ∃ a c, v = .slice a n c := by
  obtain ⟨-, -, h1 | ⟨-, b, o, c, h1, -⟩⟩ := h
  · obtain ⟨rfl, a, c, h1, -⟩ := h1; exact ⟨a, c, h1⟩
  · exact ⟨_, c, h1⟩
theorem KAt.mono {w : World} {B kb n n' : Nat} {k : Kn} {q : KQ} (h : KAt w B kb n k q) (hn : n ≤ n') : KAt w B kb n' k q := ⟨h.box, h.rl, h.rp, h.led.mono hn, h.ag, h.ml.mono hn, h.dj⟩
theorem KStep.mono {w w' : World} {B kb n n' : Nat} {k : Kn} {q q' : KQ} (h : KStep w B kb n q w' k q') (hn : n ≤ n') : KStep w B kb n' q w' k q' := ⟨h.at_.mono hn, h.sub, h.chg⟩
theorem askB_nat {k : Kn} {a : Int} (h : askB k a = true) : ∃ i : Nat, a = (i : Int) ∧ i < k.l.length := by
  unfold askB at h
  have h1 := of_decide_eq_true h
  exact ⟨a.toNat, by omega, by omega⟩
theorem passM_yes {k : Kn} {a : Int} (h : (passM k a).2 = true) : askB k a = true ∧ (passM k a).1.l = k.l ∧ (passM k a).1.now = k.now ∧ (passM k a).1.opn = k.opn := by
  unfold passM at h ⊢
  split
  · rename_i h1
    exact ⟨h1.1, rfl, rfl, rfl⟩
  · rename_i h1
    rw [if_neg h1] at h; cases h
theorem passM_no {k : Kn} {a : Int} (h : (passM k a).2 = false) : (passM k a).1 = k := by
  unfold passM at h ⊢
  split
  · rename_i h1
    rw [if_pos h1] at h; cases h
  · rfl
set_option maxHeartbeats 16000000 in
theorem Open_any (B kb n : Nat) (k : Kn) (q : KQ) (sv : Value) (asks : List Int) (w : World) (h : KAt w B kb n k q) (hk : KOK k n) (hT : bitm.Tab w) (ho : k.opn = false) (hB : B ≤ w.heap.size ∧ 1 ≤ B) (hn : n + 8 + 2 * asks.length < 20000)
    (hr : Reads w 1 sv asks.length (intV asks)) (hd : ∀ b, sv.ownBlock = some b → b ∉ q.all kb ∧ b < w.heap.size) :
    Calls Tryd.prog 11 #[.pointer (some ⟨kb, 0, none⟩), sv] w fun e w' => ∃ v, e = .returned v ∧ OwnE w' w.heap.size v (openM k asks).2 ∧ (∃ q', KStep w B kb (n + 8 + 2 * asks.length) q w' (openM k asks).1 q') ∧ KOK (openM k asks).1 (n + 8 + 2 * asks.length) := by
  obtain ⟨⟨c0, c1, c2, c3⟩, c4, c5, c6⟩ := h.cells
  rw [ho] at c6
  have f6 := h.box.free 6
  have HS := Lib.hid (⟨h, hk⟩ : _ ∧ _)
  have HLT := Lib.hid h.lt
  have HBT := Lib.hid (⟨hB.1, hT, hn, h.tab hT hB.2⟩ : _ ∧ _ ∧ _ ∧ _)
  have now0 := hk.now.1
  have now1 := hk.now.2
  obtain ⟨sa, sc, rfl⟩ := reads_open hr
  obtain ⟨sn, hsn⟩ : ∃ z, asks.length = z := ⟨_, rfl⟩
  rw [hsn] at hr
  have HSN := Lib.hid hsn
  rw [hsn] at hd ⊢
  have HR := Lib.hid (⟨hr, hd⟩ : _ ∧ _)
  rw [hsn] at HBT
  clear hsn
  clear h hk hT ho hB hn hr hd
  go_enter Tryd.func11, Tryd.ntmps11
  go_upto_region 5 with fail
  obtain ⟨w1, hw1⟩ : ∃ w1, w.setCell ⟨kb, 6, none⟩ (.bool true) = w1 := ⟨_, rfl⟩
  have HK1 : Hid (KAt w1 B kb n { k with opn := true } q) := Lib.hid (by rw [← hw1]; exact HS.out.1.opens true)
  have HC1 : Hid (Chg (q.all kb) w w1) := Lib.hid (by rw [← hw1]; exact (Chg.refl _ w).setCell (.inl (by simp [KQ.all, KQ.rest])) _)
  rw [hw1]
  have HLA := Lib.hid (fun V (hV : Chg [] w1 V) => Late_any B q.lb n k.led q.lq k.now V ((HK1.out.fresh hV).led) HS.out.2.led (tab_keep (tab_keep HBT.out.2.1 HC1.out HBT.out.2.2.2) hV (by simp)) now0 (by omega))
  clear hw1 c0 c1 c2 c3 c4 c5 c6 f6
  have hHeld : (fun V : World => Hid (V.cell? ⟨kb, 2, none⟩ = some (.pointer (some ⟨q.lb, 0, none⟩)) ∧ V.cell? ⟨kb, 5, none⟩ = some (.int .i64 k.now))) (World.drew w1) := Lib.hid ⟨HK1.out.cells.1.2.2.1, HK1.out.cells.2.2.1⟩
  refine wp_region_plan (fun V : World => Hid (V.cell? ⟨kb, 2, none⟩ = some (.pointer (some ⟨q.lb, 0, none⟩)) ∧ V.cell? ⟨kb, 5, none⟩ = some (.int .i64 k.now))) [(0, true, some 25), (1, true, some 26), (2, true, some 27), (3, true, some 28), (4, true, some 29), (5, true, some 30), (6, true, some 31), (7, true, some 32), (10, true, some 35), (8, false, some 33), (9, true, some 34)] (by kernel_rfl) (by kernel_rfl) (by kernel_rfl) (by kernel_rfl) (fun d c a v w h => by cases d <;> exact h) hHeld ?_
  repeat (first
    | (refine planWp_read (v := ?_) rfl rfl ?_ ?_ ?_; rotate_left; (focus rfl); (focus (intro u hSw; (try dsimp only at hSw); obtain ⟨h1, h2⟩ := hSw.out; go_simp; (try with_reducible rfl))); (try simp only [Act.put, List.setIfInBounds_toArray, List.set_cons_zero, List.set_cons_succ])))
  refine planWp_do rfl rfl ?_ (fun K hK => ?_)
  focus rfl
  go_simp
  obtain ⟨⟨led2, lates⟩, hlm⟩ : ∃ z, lateM k.led k.now = z := ⟨_, rfl⟩
  rw [hlm] at HLA
  go_wp2_with (go_at_call 24; refine (HLA.out _ ((Chg.refl _ w1).drew)).mono ?_; rintro e w2 ⟨lv, rfl, hlo, hl2, hok2, hc2⟩; obtain ⟨la, lc, rfl⟩ := own_open hlo; have HLO := Lib.hid hlo; have HC2 : Hid (Chg (q.lq.aa.map (·.block)).toList w1 w2) := Lib.hid (((Chg.refl _ w1).drew).trans hc2); have HL2 := Lib.hid (⟨hl2, hok2⟩ : _ ∧ _); clear hlo hl2 hok2 hc2)
  have HAA : Hid (∀ y ∈ (q.lq.aa.map (·.block)).toList, y ∈ q.lq.bs q.lb) := Lib.hid (fun y hy => by simp only [LedQ.bs, List.mem_cons, List.mem_append]; exact .inr (.inr (.inr (.inl (.inr hy)))))
  have HK2 : Hid (KAt w2 B kb n { k with opn := true, led := led2 } q) := Lib.hid (HK1.out.withLed (Nat.le_refl n) (HC2.out.mono HAA.out) _ q.lq HL2.out.1 (fun y hy => .inl hy))
  refine hK.out _ _ ?_ (fun hHeld2 => ?_)
  focus exact Lib.hid ⟨HK2.out.cells.1.2.2.1, HK2.out.cells.2.2.1⟩
  clear hK K hHeld2 hHeld
  try simp only [Act.put, List.setIfInBounds_toArray, List.set_cons_zero, List.set_cons_succ]
  repeat (first
    | (refine planWp_read (v := ?_) rfl rfl ?_ ?_ ?_; rotate_left; (focus rfl); (focus (intro u hSw; (try dsimp only at hSw); obtain ⟨h1, h2⟩ := hSw.out; go_simp; (try with_reducible rfl))); (try simp only [Act.put, List.setIfInBounds_toArray, List.set_cons_zero, List.set_cons_succ])))
  refine planWp_nil ?_
  have hlk := lateF_keep HS.out.2.led k.now k.now (bitsM k.led.act) [] k.led HS.out.2.led rfl rfl rfl (fun i hi => bitsM_bit _ (by have := HS.out.2.led.act; omega) i hi) (by simp) (fun j hj => HS.out.2.st j hj)
  rw [show (bitsM k.led.act).foldl (lateF k.now) (k.led, []) = (led2, lates) from hlm] at hlk
  have HOA : Hid (openA k = ({ k with opn := true, led := led2 }, lates.map (lateE { k with opn := true, led := led2 }))) := Lib.hid (by unfold openA; rw [hlm])
  have HLK := Lib.hid hlk
  have HST2 : Hid (KStep w B kb n q w2 { k with opn := true, led := led2 } q) := Lib.hid ⟨HK2.out, fun y hy => .inl hy, HC1.out.trans (HC2.out.mono (fun y hy => List.mem_append_right _ (HAA.out y hy)))⟩
  have HLT8 : Hid (lates.length ≤ 256) := Lib.hid (by have h1 := hlk.2.2.2.2.1; have h2 := bitsM_le k.led.act; have h3 := HS.out.2.led.act; simp at h1; omega)
  have HB2 : Hid (w.heap.size ≤ w1.heap.size ∧ w1.heap.size ≤ w2.heap.size) := Lib.hid ⟨HC1.out.size, HC2.out.size⟩
  clear hlk hlm
  go_wp2
  go_loopw [5, 35] (fun ov p wr => ∃ (j : Nat) (out : List Ev) (oa : Option Addr) (oc : Nat), ov = .slice oa out.length oc ∧ p = .int .i64 j ∧ Hid (j ≤ lates.length ∧ out = (lates.take j).map (lateE { k with opn := true, led := led2 })) ∧ Hid (KStep w B kb n q wr { k with opn := true, led := led2 } q) ∧ Hid (OwnE wr w.heap.size (.slice oa out.length oc) out) ∧ Hid (OwnN wr w1.heap.size (.slice la lates.length lc) lates) ∧ Hid (w2.heap.size ≤ wr.heap.size)) (fun _ p _ => lates.length - (intOf p).toNat)
  case atStart => exact ⟨0, [], none, 0, rfl, rfl, Lib.hid ⟨by omega, rfl⟩, HST2, Lib.hid ⟨rfl, .inl ⟨rfl, rfl⟩⟩, HLO, Lib.hid (Nat.le_refl _)⟩
  case round =>
    obtain ⟨j, out, oa, oc, rfl, rfl, HJ, HSR, HO, HLR, HSZ⟩ := hrel
    by_cases hjl : j < lates.length
    · have m1 : (j : Int) < (lates.length : Int) := by omega
      obtain ⟨i, hi⟩ : ∃ i, lates[j]? = some i := ⟨_, List.getElem?_eq_getElem hjl⟩
      obtain ⟨gb, cb, hv, hgB, hgb⟩ := own_addr HLR.out (by omega)
      simp only [Value.slice.injEq] at hv
      obtain ⟨rfl, -, rfl⟩ := hv
      have ixb := index_at (size := 1) Tryd.underlying44 szInt gb lates.length lc j hjl
      rw [Nat.mul_one] at ixb
      have cb : wr.cell? ⟨gb, j, none⟩ = some (.int .i64 (i : Int)) := own_one HLR.out j _ (by rw [intC, List.getElem?_map, hi]; rfl)
      have hbi := HLK.out.2.2.2.1 i (List.mem_of_getElem? hi)
      have hi8 := bit_lt HS.out.2.led.act hbi
      have HJ2 := Lib.hid (Job_any B q.lb n led2 q.lq i wr HSR.out.at_.led HL2.out.2 (by omega))
      obtain ⟨x, hx⟩ : ∃ x, led2.get i = x := ⟨_, rfl⟩
      have HE : Hid (lateE { k with opn := true, led := led2 } i = k.ev 4 i x.no 0) := Lib.hid (by unfold lateE Kn.ev; simp only [hx])
      rw [hx] at HJ2
      have HTK : Hid (lates.take (j + 1) = lates.take j ++ [i]) := Lib.hid (by rw [List.take_add_one, hi]; rfl)
      obtain ⟨x0, x1, x2, x3, x4, x5, x6, x7⟩ := x
      have d2 := HSR.out.at_.cells.1.2.2.1
      have HN : Hid (j < lates.length) := Lib.hid hjl
      have h63 : ¬ (j : Int) + 1 > 9223372036854775807 := by have := HLT8.out; omega
      obtain ⟨i0, hi0, hz0, hz1, hz2⟩ := info_parts infoEv
      have hb1 : out.length + 1 ≤ maxLen := by have h1 := HLT8.out; have h2 := HJ.out.2; rw [h2]; simp; unfold maxLen; omega
      have hb2 : (out.length + 1) * 40 ≤ 140737488355328 := by have h1 := HLT8.out; have h2 := HJ.out.2; rw [h2]; simp; omega
      have HNG : Hid (gb < w2.heap.size ∧ w1.heap.size ≤ gb) := Lib.hid ⟨(World.ownsRow.lt HLO.out gb (by simp [Value.ownBlock])).2, (World.ownsRow.lt HLO.out gb (by simp [Value.ownBlock])).1⟩
      clear hjl hi hgB hgb hbi hx
      go_wp2_with (first
        | (go_at_call 13; refine HJ2.out.mono ?_; rintro e w3 ⟨rfl, hc3⟩; have HC3 := Lib.hid hc3; have HBZ := Lib.hid (Blk.new w3 #[.int .i64 0, .int .i64 0, .int .i64 0, .int .i64 0, .int .i64 0, .int .i64 0, .int .i64 0, .bool false] 60); clear hc3)
        | (refine Go.Proofs.YtfkokbeloenfdaaDoor.blk.wpList_store_blk rfl 60 (.tmp 8) (.tmp 46) rfl w3.heap.size #[.int .i64 x0, .int .i64 x1, .int .i64 x2, .int .i64 x3, .int .i64 x4, .int .i64 x5, .int .i64 x6, .bool x7] rfl rfl HBZ.out szJob rfl (by simp [Value.oneCell']) ?_; intro w4 hb4 hc4; have HC4 := Lib.hid ((HC3.out.alloc (.cells #[.int .i64 0, .int .i64 0, .int .i64 0, .int .i64 0, .int .i64 0, .int .i64 0, .int .i64 0, .bool false] 60)).into hc4 (fun y hy => .inr (by rw [List.mem_singleton.1 hy]; exact HC3.out.size))); have z1 : w4.cell? ⟨w3.heap.size, 1, none⟩ = some (.int .i64 x1) := hb4.cell rfl; clear hb4 hc4)
        | (go_at_call 25; refine (event_any kb k.now _ _ _ _ _ ((HSR.out.at_.fresh HC4.out).cells.2.2.1)).mono ?_; rintro e w5 ⟨rfl, hc5⟩; have HC5 := Lib.hid (HC4.out.trans hc5); have hcc := ev_cells w5 ⟨k.now, 4, i, x1, 0⟩; have hOA : OwnE (w5.alloc (.cells #[.int .i64 k.now, .int .i64 4, .int .i64 (i : Int), .int .i64 x1, .int .i64 0] 41)) w.heap.size (.slice oa out.length oc) out := own_keep HO.out (HC5.out.alloc _) (by simp); have hb3 : w.heap.size ≤ (w5.alloc (.cells #[.int .i64 k.now, .int .i64 4, .int .i64 (i : Int), .int .i64 x1, .int .i64 0] 41)).heap.size := (by rw [World.size_alloc]; have h1 := HB2.out; have h2 := HSZ.out; have h3 := HC5.out.size; omega); clear hc5)
        | (at_builtin; refine wpList_append_own_at _ rfl (.tmp 48) (.tmp 54) 36 rfl w.heap.size 41 i0 (.agg #[.int .i64 0, .int .i64 0, .int .i64 0, .int .i64 0, .int .i64 0]) 5 40 Tryd.underlying36 hi0 hz0 hz1 hz2 rfl (by decide) (.slice oa out.length oc) out.length (out.flatMap Ev.cells) rfl hOA ⟨w5.heap.size, 0, none⟩ 1 1 _ rfl rfl hcc (by simp [Value.oneCell', Ev.cells]) hb1 hb2 hb3 ?_; intro v' w' hown' hgrow hnil hblk; obtain ⟨oa', oc', rfl⟩ := own_open hown'; have HKA := Lib.hid (((Chg.refl (Value.slice oa out.length oc).ownBlock.toList w5).alloc (.cells #[.int .i64 k.now, .int .i64 4, .int .i64 (i : Int), .int .i64 x1, .int .i64 0] 41)).grown hgrow (fun k hk => .inl (Option.mem_toList.2 hk))); have HON := Lib.hid (OwnE.snocS (e := ⟨k.now, 4, i, x1, 0⟩) hown'); clear hown' hgrow hnil hblk))
      have HOB : Hid (∀ y ∈ (Value.slice oa out.length oc).ownBlock.toList, w.heap.size ≤ y ∧ y ∉ q.all kb) := Lib.hid (fun y hy => ⟨(World.ownsRow.lt HO.out y (Option.mem_toList.1 hy)).1, HSR.out.at_.ne_ev HO.out y (Option.mem_toList.1 hy)⟩)
      go_roundw
      case rel =>
        refine ⟨j + 1, out ++ [⟨k.now, 4, i, x1, 0⟩], oa', oc', by simp, by simp, Lib.hid ⟨by have := HN.out; omega, ?_⟩, Lib.hid ((HSR.out.fresh HC5.out).scratch HKA.out HOB.out), Lib.hid HON.out, Lib.hid (own_keep (own_keep HLR.out HC5.out (by simp)) HKA.out (fun y hy hm => ?_)), Lib.hid (Nat.le_trans HSZ.out (Nat.le_trans HC5.out.size HKA.out.size))⟩
        · rw [HTK.out, List.map_append, ← HJ.out.2, List.map_singleton, HE.out]; rfl
        · exact own_type2 HLR.out HO.out (by decide) y hy (Option.mem_toList.1 hm)
      case measure =>
        have := HN.out
        simp [intOf]
        omega
    · have HJE : Hid (j = lates.length) := Lib.hid (by have := HJ.out.1; omega)
      have m1 : ¬ (j : Int) < (lates.length : Int) := by omega
      have HOE : Hid (out = lates.map (lateE { k with opn := true, led := led2 })) := Lib.hid (by have h1 := HJ.out.2; rw [HJE.out, List.take_length] at h1; exact h1)
      clear hjl
      go_upto_region 11 with fail
      have HKR := Lib.hid HSR.out.at_
      have HUN := Lib.hid (fun V (hV : Chg [] wr V) => Until_any B q.ab q.dc (k.l.length : Int) k.now q.da k.due V (by have h1 := HS.out.2.dl; have h2 := HS.out.2.led.llen; rw [HS.out.2.ll] at h2; omega) (HKR.out.fresh hV).ag)
      obtain ⟨⟨us, due2⟩, hum⟩ : ∃ z, untilM k.now k.due = z := ⟨_, rfl⟩
      rw [hum] at HUN
      have HUM := Lib.hid hum
      have hHeld : (fun V : World => Hid (V.cell? ⟨kb, 3, none⟩ = some (.pointer (some ⟨q.ab, 0, none⟩)) ∧ V.cell? ⟨kb, 5, none⟩ = some (.int .i64 k.now))) (World.drew wr) := Lib.hid ⟨HKR.out.cells.1.2.2.2, HKR.out.cells.2.2.1⟩
      refine wp_region_plan (fun V : World => Hid (V.cell? ⟨kb, 3, none⟩ = some (.pointer (some ⟨q.ab, 0, none⟩)) ∧ V.cell? ⟨kb, 5, none⟩ = some (.int .i64 k.now))) [(0, true, some 57), (1, true, some 58), (2, true, some 59), (3, true, some 60), (4, true, some 61), (5, true, some 62), (6, true, some 63), (7, true, some 64), (10, true, some 67), (8, false, some 65), (9, true, some 66)] (by kernel_rfl) (by kernel_rfl) (by kernel_rfl) (by kernel_rfl) (fun d c a v w h => by cases d <;> exact h) hHeld ?_
      repeat (first
        | (refine planWp_read (v := ?_) rfl rfl ?_ ?_ ?_; rotate_left; (focus rfl); (focus (intro u hSw; (try dsimp only at hSw); obtain ⟨h1, h2⟩ := hSw.out; go_simp; (try with_reducible rfl))); (try simp only [Act.put, List.setIfInBounds_toArray, List.set_cons_zero, List.set_cons_succ])))
      refine planWp_do rfl rfl ?_ (fun K hK => ?_)
      focus rfl
      go_simp
      go_wp2_with (go_at_call 26; refine (HUN.out _ ((Chg.refl _ wr).drew)).mono ?_; rintro e wu ⟨uv, rfl, huo, hua, huc⟩; obtain ⟨ua, uc, rfl⟩ := own_open huo; have HUO := Lib.hid huo; have HUC : Hid (Chg (q.ab :: blk q.da) wr wu) := Lib.hid (((Chg.refl _ wr).drew).trans (huc.mono (fun y hy => by rw [own_slice] at hy; exact hy))); have HUA := Lib.hid hua; clear huo hua huc)
      have HKU : Hid (KAt wu B kb n { k with opn := true, led := led2, due := due2 } q) := Lib.hid (HKR.out.withAg HUC.out due2 q.da q.dc HUA.out (fun y hy => .inl hy))
      refine hK.out _ _ ?_ (fun hHeld2 => ?_)
      focus exact Lib.hid ⟨HKU.out.cells.1.2.2.2, HKU.out.cells.2.2.1⟩
      clear hK K hHeld2 hHeld
      try simp only [Act.put, List.setIfInBounds_toArray, List.set_cons_zero, List.set_cons_succ]
      repeat (first
        | (refine planWp_read (v := ?_) rfl rfl ?_ ?_ ?_; rotate_left; (focus rfl); (focus (intro u hSw; (try dsimp only at hSw); obtain ⟨h1, h2⟩ := hSw.out; go_simp; (try with_reducible rfl))); (try simp only [Act.put, List.setIfInBounds_toArray, List.set_cons_zero, List.set_cons_succ])))
      refine planWp_nil ?_
      clear hum
      go_wp2
      have hua := untilM_all (P := fun d => (0 ≤ d.at_ ∧ d.at_ ≤ 1060000) ∧ 0 ≤ d.task ∧ d.task < k.l.length) k.now k.due.length k.due (Nat.le_refl _) HS.out.2.due
      have hul := untilM_len k.now k.due.length k.due (Nat.le_refl _)
      rw [HUM.out] at hua hul
      simp only at hua hul
      have HUA2 := Lib.hid hua
      have HUL : Hid (us.length ≤ 8 ∧ due2.length ≤ k.l.length) := Lib.hid (by have h1 := HS.out.2.dl; have h2 := HS.out.2.led.llen; rw [HS.out.2.ll] at h2; omega)
      obtain ⟨kA, hkA⟩ : ∃ z, ({ k with opn := true, led := led2, due := due2 } : Kn) = z := ⟨_, rfl⟩
      have HKOA : Hid (KOK kA n ∧ kA.l = k.l ∧ kA.now = k.now ∧ kA.opn = true) := Lib.hid (by
        rw [← hkA]
        exact ⟨⟨HL2.out.2, HLK.out.2.2.1.trans HS.out.2.ll, HS.out.2.pl, HS.out.2.now, hua.2, HUL.out.2, HS.out.2.last, HLK.out.2.2.2.2.2⟩, rfl, rfl, rfl⟩)
      have HKA0 : Hid ({ (openA k).1 with due := (untilM k.now k.due).2 } = kA ∧ (openA k).2 = out) := Lib.hid (by rw [HOA.out, HUM.out, ← hkA, HOE.out]; exact ⟨rfl, rfl⟩)
      rw [hkA] at HKU
      have HBDA : Hid (∀ y ∈ q.ab :: blk q.da, y ∈ q.all kb) := Lib.hid (fun y hy => by
        refine List.mem_append_left _ ?_
        rcases List.mem_cons.1 hy with rfl | hy
        · simp [KQ.rest]
        · simp only [KQ.rest, List.mem_cons, List.mem_append]; exact .inr (.inr (.inr (.inr hy))))
      have HSU : Hid (KStep w B kb n q wu kA q) := Lib.hid (HSR.out.trans ⟨HKU.out, fun y hy => .inl hy, HUC.out.mono HBDA.out⟩)
      have HOU : Hid (OwnE wu w.heap.size (.slice oa out.length oc) out) := Lib.hid (own_keep HO.out HUC.out (fun y hy hm => HKR.out.ne_ev HO.out y hy (HBDA.out y hm)))
      obtain ⟨wo, hwo⟩ : ∃ wo, wo = wr := ⟨_, rfl⟩
      subst hwo
      have HWO : Hid (w.heap.size ≤ wo.heap.size ∧ wo.heap.size ≤ wu.heap.size) := Lib.hid ⟨HSR.out.chg.size, HUC.out.size⟩
      clear hua hul hkA m1
      go_loopw [5, 67] (fun ov p wr => ∃ (j : Nat) (k' : Kn) (q' : KQ) (out' : List Ev) (oa : Option Addr) (oc : Nat), ov = .slice oa out'.length oc ∧ p = .int .i64 j ∧ Hid (j ≤ us.length ∧ (us.take j).foldl dueF (kA, out) = (k', out') ∧ out'.length = out.length + j) ∧ Hid (KStep w B kb (n + j) q wr k' q' ∧ (∀ y ∈ q'.all kb, y ∈ q.all kb ∨ wu.heap.size ≤ y) ∧ wu.heap.size ≤ wr.heap.size) ∧ Hid (KOK k' (n + j) ∧ k'.l = k.l ∧ k'.now = k.now ∧ k'.opn = true) ∧ Hid (OwnE wr w.heap.size (.slice oa out'.length oc) out') ∧ Hid (OwnD wr wo.heap.size (.slice ua us.length uc) us)) (fun _ p _ => us.length - (intOf p).toNat)
      case atStart => exact ⟨0, kA, q, out, oa, oc, rfl, rfl, Lib.hid ⟨by omega, rfl, rfl⟩, Lib.hid ⟨HSU.out, fun y hy => .inl hy, Nat.le_refl _⟩, HKOA, HOU, HUO⟩
      case round =>
        obtain ⟨j2, k', q', out', oa', oc', rfl, rfl, HJ2, HS2, HOK2, HO2, HU2⟩ := hrel
        by_cases hjl : j2 < us.length
        · have m1 : (j2 : Int) < (us.length : Int) := by omega
          obtain ⟨d, hd⟩ : ∃ d, us[j2]? = some d := ⟨_, List.getElem?_eq_getElem hjl⟩
          have hdu := HUA2.out.1 d (List.mem_of_getElem? hd)
          have hdg : us.getD j2 d0 = d := by rw [List.getD_eq_getElem?_getD, hd]; rfl
          have HTK : Hid ((us.take (j2 + 1)).foldl dueF (kA, out) = dueF (k', out') d) := Lib.hid (by rw [List.take_add_one, hd, List.foldl_append, HJ2.out.2.1]; rfl)
          obtain ⟨gb, cb, hv, hgB, hgb⟩ := own_addr HU2.out (by omega)
          simp only [Value.slice.injEq] at hv
          obtain ⟨rfl, -, rfl⟩ := hv
          have ixb := index_at (size := 2) Tryd.underlying23 szDue gb us.length uc j2 hjl
          have hcc := HU2.out.at j2 hjl
          rw [hdg] at hcc
          obtain ⟨⟨v0, v1⟩, -, -⟩ := hcc
          obtain ⟨at_, tk⟩ := d
          simp only at hdu v0 v1
          obtain ⟨i, rfl⟩ : ∃ i : Nat, tk = (i : Int) := ⟨tk.toNat, by omega⟩
          have hil : i < k'.l.length := by rw [HOK2.out.2.1]; omega
          have HIL := Lib.hid hil
          have HDF := Lib.hid (dueF_ok (p := (k', out')) HOK2.out.1 ⟨at_, i⟩ (by have := HS.out.2.now; simp only; omega) (by simp only; omega))
          have HTB := Lib.hid (HS2.out.1.tab HBT.out.2.1 HBT.out.2.2.2)
          have HLE := Lib.hid (fun V (hV : Chg [] wr V) => let_any B kb (n + j2) k' q' i V (HS2.out.1.at_.fresh hV) HOK2.out.1 (tab_keep HTB.out.1 hV (by simp)) hil (by have h1 := HUL.out.1; have h2 := HBT.out.2.2.1; omega) (by have h1 := HBT.out.1; have h2 := HS2.out.1.chg.size; have h3 := hV.size; omega))
          obtain ⟨⟨k4, ⟨e0, e1, e2, e3, e4⟩⟩, hlm⟩ : ∃ z, letM k' i = z := ⟨_, rfl⟩
          rw [hlm] at HLE
          simp only [Ev.val] at HLE
          have HLM := Lib.hid hlm
          have HN : Hid (j2 < us.length) := Lib.hid hjl
          have h63 : ¬ (j2 : Int) + 1 > 9223372036854775807 := by have := HUL.out.1; omega
          have now_b : 0 ≤ at_ ∧ at_ ≤ 2000 := by omega
          have hat0 := now_b.1
          have hat1 := now_b.2
          have HOL : Hid (out'.length ≤ 300) := Lib.hid (by have h1 := HJ2.out.2.2; have h2 := HUL.out.1; have h3 := HLT8.out; have h4 := HOE.out; rw [h4] at h1; simp at h1; omega)
          obtain ⟨i0, hi0, hz0, hz1, hz2⟩ := info_parts infoEv
          have hb1 : out'.length + 1 ≤ maxLen := by have := HOL.out; unfold maxLen; omega
          have hb2 : (out'.length + 1) * 40 ≤ 140737488355328 := by have := HOL.out; omega
          have HBZ := Lib.hid (Blk.new wr #[.int .i64 0, .int .i64 0] 35)
          have HSW : Hid (w.heap.size ≤ wr.heap.size) := Lib.hid HS2.out.1.chg.size
          have HQL := Lib.hid HS2.out.1.at_.lt
          clear hjl hd hdu hdg hgB hgb hil hlm now_b
          go_upto_region 15 with (first
            | (refine Go.Proofs.YtfkokbeloenfdaaDoor.blk.wpList_store_blk rfl 35 (.tmp 11) (.tmp 70) rfl wr.heap.size #[.int .i64 at_, .int .i64 (i : Int)] rfl rfl HBZ.out szDue rfl (by simp [Value.oneCell']) ?_; intro w3 hb3 hc3; have HC3 : Hid (Chg [] wr w3) := Lib.hid (((Chg.refl [] wr).alloc _).into hc3 (fun y hy => .inr (by rw [List.mem_singleton.1 hy]; exact Nat.le_refl _))); have HB3 := Lib.hid hb3; have y0 : w3.cell? ⟨wr.heap.size, 0, none⟩ = some (.int .i64 at_) := hb3.cell rfl; have y1 : w3.cell? ⟨wr.heap.size, 1, none⟩ = some (.int .i64 (i : Int)) := hb3.cell rfl; clear hb3 hc3)
            | (go_at_call 27; refine (HLE.out w3 HC3.out).mono ?_; rintro e w4 ⟨rfl, q4, hs4⟩; have HS4 := Lib.hid (KStep.pre HC3.out hs4); have HC4 : Hid (Chg (q'.all kb) w3 w4) := Lib.hid hs4.chg; have hOA : OwnE (w4.alloc (.cells #[.int .i64 e0, .int .i64 e1, .int .i64 e2, .int .i64 e3, .int .i64 e4] 41)) w.heap.size (.slice oa' out'.length oc') out' := own_keep (own_keep (own_keep HO2.out HC3.out (by simp)) hs4.chg (fun y hy hm => HS2.out.1.at_.ne_ev HO2.out y hy hm)) ((Chg.refl [] w4).alloc _) (by simp); have hcc := ev_cells w4 ⟨e0, e1, e2, e3, e4⟩; have hb3 : w.heap.size ≤ (w4.alloc (.cells #[.int .i64 e0, .int .i64 e1, .int .i64 e2, .int .i64 e3, .int .i64 e4] 41)).heap.size := (by rw [World.size_alloc]; have h1 := HSW.out; have h2 := HC3.out.size; have h3 := hs4.chg.size; omega); clear hs4)
            | (at_builtin; refine wpList_append_own_at _ rfl (.tmp 71) (.tmp 76) 36 rfl w.heap.size 41 i0 (.agg #[.int .i64 0, .int .i64 0, .int .i64 0, .int .i64 0, .int .i64 0]) 5 40 Tryd.underlying36 hi0 hz0 hz1 hz2 rfl (by decide) (.slice oa' out'.length oc') out'.length (out'.flatMap Ev.cells) rfl hOA ⟨w4.heap.size, 0, none⟩ 1 1 _ rfl rfl hcc (by simp [Value.oneCell', Ev.cells]) hb1 hb2 hb3 ?_; intro v' w6 hown' hgrow hnil hblk; obtain ⟨oa2, oc2, rfl⟩ := own_open hown'; have HKA := Lib.hid (((Chg.refl (Value.slice oa' out'.length oc').ownBlock.toList w4).alloc (.cells #[.int .i64 e0, .int .i64 e1, .int .i64 e2, .int .i64 e3, .int .i64 e4] 41)).grown hgrow (fun k hk => .inl (Option.mem_toList.2 hk))); have HON := Lib.hid (OwnE.snocS (e := ⟨e0, e1, e2, e3, e4⟩) hown'); clear hown' hgrow hnil hblk))
          have hk4 : k4 = { k' with led := (relM k'.led i k'.now).1 } := (congrArg Prod.fst HLM.out).symm
          have HK4 : Hid (k4.l = k'.l ∧ k4.due = k'.due) := Lib.hid (by rw [hk4]; exact ⟨rfl, rfl⟩)
          have HOB : Hid (∀ y ∈ (Value.slice oa' out'.length oc').ownBlock.toList, (w.heap.size ≤ y ∧ y < wr.heap.size) ∧ y ∉ q'.all kb) := Lib.hid (fun y hy => ⟨⟨(World.ownsRow.lt HO2.out y (Option.mem_toList.1 hy)).1, (World.ownsRow.lt HO2.out y (Option.mem_toList.1 hy)).2⟩, HS2.out.1.at_.ne_ev HO2.out y (Option.mem_toList.1 hy)⟩)
          have HS6 : Hid (KStep w B kb (n + j2 + 1) q w6 k4 q4) := Lib.hid ((HS2.out.1.trans HS4.out).scratch HKA.out (fun y hy => ⟨(HOB.out y hy).1.1, fun hm => by
            rcases HS4.out.sub y hm with h1 | h1
            · exact (HOB.out y hy).2 h1
            · have := (HOB.out y hy).1.2; omega⟩))
          have HB6 : Hid (Blk w6 wr.heap.size #[.int .i64 at_, .int .i64 (i : Int)] 35) := Lib.hid ((HB3.out.keep HC4.out (fun hm => by have := HQL.out _ hm; omega)).keep HKA.out (fun hm => by have := (HOB.out _ hm).1.2; omega))
          obtain ⟨d, hd⟩ : ∃ d, k4.l[i]? = some d := ⟨_, List.getElem?_eq_getElem (by rw [HK4.out.1]; exact HIL.out)⟩
          obtain ⟨pp, hpp⟩ : ∃ z, d.period = z := ⟨_, rfl⟩
          have hperk : perM k' (i : Int) = pp := by unfold perM; rw [Int.toNat_natCast, ← HK4.out.1, hd]; exact hpp
          have HDE : Hid (dueF (k', out') ⟨at_, i⟩ = ({ k4 with due := pushM (k4.l.length : Int) k4.due ⟨at_ + pp, i⟩ }, out' ++ [⟨e0, e1, e2, e3, e4⟩])) := Lib.hid (by
            unfold dueF
            simp only [Int.toNat_natCast, HLM.out, hperk, HK4.out.1, HK4.out.2])
          have hppb : 0 ≤ pp ∧ pp ≤ 1048576 := by
            have h1 := HOK2.out.1.led.fitl d (by rw [HOK2.out.1.ll, ← HK4.out.1]; exact List.mem_of_getElem? hd)
            rw [← hpp]; omega
          obtain ⟨gl, cl, hvl, hglB, hgl⟩ := own_addr HS6.out.at_.rl (by rw [HK4.out.1]; have := HIL.out; omega)
          simp only [Value.slice.injEq] at hvl
          obtain ⟨hla, -, hlc⟩ := hvl
          obtain ⟨nl, hnl⟩ : ∃ z, k4.l.length = z := ⟨_, rfl⟩
          have ixl := index_at (size := 7) Tryd.underlying22 szTask gl nl q4.lc i (by rw [← hnl, HK4.out.1]; exact HIL.out)
          have FB : Hid (∀ V, Chg [] w6 V → (V.cell? ⟨kb, 3, none⟩ = some (.pointer (some ⟨q4.ab, 0, none⟩)) ∧ V.cell? ⟨kb, 0, none⟩ = some (.slice (some ⟨gl, 0, none⟩) nl q4.lc)) ∧ (V.cell? ⟨wr.heap.size, 0, none⟩ = some (.int .i64 at_) ∧ V.cell? ⟨wr.heap.size, 1, none⟩ = some (.int .i64 (i : Int))) ∧ V.cell? ⟨gl, i * 7 + 2, none⟩ = some (.int .i64 pp)) := Lib.hid (fun V hV => (by
            have e1 := HS6.out.at_.cells.1.2.2.2
            have e0 := HS6.out.at_.cells.1.1
            rw [hnl, hla] at e0
            have hrl := HS6.out.at_.rl
            rw [hla] at hrl
            have e2 := (row_cell (enc := Tk.cells) (sz := 7) (fun _ => rfl) hrl i 2 (by decide) d hd _ rfl).1
            rw [hpp] at e2
            exact ⟨⟨hV.keep e1 (by simp), hV.keep e0 (by simp)⟩, ⟨hV.keep (HB6.out.cell (o := 0) rfl) (by simp), hV.keep (HB6.out.cell (o := 1) rfl) (by simp)⟩, hV.keep e2 (by simp)⟩))
          have HPU := Lib.hid (fun V (hV : Chg [] w6 V) => Push_any B q4.ab (k4.l.length : Int) q4.da q4.dc k4.due (at_ + pp) i V ((HS6.out.at_.fresh hV).ag) (by omega) (by omega) (by rw [HK4.out.2]; have h1 := HOK2.out.1.dl; have h2 := HOK2.out.1.led.llen; rw [HOK2.out.1.ll] at h2; omega) (by have h1 := HBT.out.1; have h2 := HS6.out.chg.size; have h3 := hV.size; omega))
          have hp0 := hppb.1
          have hp1 := hppb.2
          have kw : IntKind.i64.wrap (at_ + pp) = at_ + pp := by rw [IntKind.wrap_i64]; omega
          have HXD := Lib.hid hat1
          clear hk4 hd hpp hperk hppb hla hlc hglB hgl hnl y0 y1
          have hHeld : (fun V : World => Hid (Chg [] w6 V)) (World.drew w6) := Lib.hid (Chg.refl _ _).drew
          refine wp_region_planT (fun V : World => Hid (Chg [] w6 V)) 19 [(0, true, some 78), (1, true, some 79), (2, true, some 80), (3, true, some 81), (4, true, some 82), (5, true, some 83), (6, true, some 84), (7, true, some 85), (8, true, some 86), (9, true, some 87), (10, true, some 88), (11, true, some 89), (12, true, some 90), (13, true, some 91), (14, true, some 92), (15, true, some 93), (16, true, some 94), (17, true, some 95), (18, true, some 96)] (by kernel_rfl) (by kernel_rfl) (by kernel_rfl) (by kernel_rfl) (by kernel_rfl) (fun d c a v w h => by cases d <;> exact h) hHeld ?_
          repeat (first
            | (refine planT_read (v := ?_) rfl rfl ?_ ?_ ?_; rotate_left; (focus rfl); (focus (intro u hSw; (try dsimp only at hSw); obtain ⟨⟨h1, h2⟩, ⟨h3, h4⟩, h5⟩ := FB.out u hSw.out; go_simp; (try with_reducible rfl))); (try simp only [Act.put, List.setIfInBounds_toArray, List.set_cons_zero, List.set_cons_succ])))
          refine planT_last rfl rfl (fun K hK => ?_)
          go_simp
          go_at_call 23
          refine (HPU.out _ hHeld.out).mono ?_
          rintro e w7 ⟨⟨rv, rfl⟩, ⟨a7, c7, ha7, hs7⟩, hc7⟩
          have HA7 := Lib.hid (⟨ha7, hs7⟩ : _ ∧ _)
          rw [own_slice] at hc7
          have HC7 : Hid (Chg (q4.ab :: blk q4.da) w6 w7) := Lib.hid (((Chg.refl _ w6).drew).trans hc7)
          clear ha7 hs7 hc7
          refine hK.out _ _ ?_
          clear hK K hHeld
          clear kw
          have HK7 : Hid (KAt w7 B kb (n + j2 + 1) { k4 with due := pushM (k4.l.length : Int) k4.due ⟨at_ + pp, i⟩ } { q4 with da := a7, dc := c7 }) := Lib.hid (HS6.out.at_.withAg HC7.out _ a7 c7 HA7.out.1 (fun y hy => by
            rcases HA7.out.2 y (by rw [own_slice]; exact Option.mem_toList.1 hy) with h1 | h1
            · rw [own_slice] at h1; exact .inl (Option.mem_toList.2 h1)
            · exact .inr (Nat.le_trans (by simp) h1)))
          have hsub7 : ∀ y ∈ ({ q4 with da := a7, dc := c7 } : KQ).all kb, y ∈ q4.all kb ∨ w6.heap.size ≤ y := fun y hy => by
            rcases List.mem_append.1 hy with h1 | h1
            · rcases KQ.mem h1 with h2 | h2 | h2 | h2 | h2 | h2
              · exact .inl (List.mem_append_left _ (by simp [KQ.rest, h2]))
              · exact .inl (List.mem_append_left _ (by simp only at h2; simp [KQ.rest, h2]))
              · exact .inl (List.mem_append_left _ (by simp only at h2; simp [KQ.rest, h2]))
              · exact .inl (List.mem_append_left _ (by simp only at h2; simp [KQ.rest, h2]))
              · exact .inl (List.mem_append_left _ (by simp only at h2; simp [KQ.rest, h2]))
              · rcases HA7.out.2 y (by rw [own_slice]; exact h2) with h3 | h3
                · rw [own_slice] at h3
                  exact .inl (List.mem_append_left _ (by simp [KQ.rest, h3]))
                · exact .inr (Nat.le_trans (by simp) h3)
            · exact .inl (List.mem_append_right _ h1)
          have hq4 : ∀ y ∈ q4.ab :: blk q4.da, y ∈ q4.all kb := fun y hy => by
            refine List.mem_append_left _ ?_
            rcases List.mem_cons.1 hy with rfl | hy
            · simp [KQ.rest]
            · simp only [KQ.rest, List.mem_cons, List.mem_append]; exact .inr (.inr (.inr (.inr hy)))
          have HS7 : Hid (KStep w B kb (n + j2 + 1) q w7 { k4 with due := pushM (k4.l.length : Int) k4.due ⟨at_ + pp, i⟩ } { q4 with da := a7, dc := c7 }) := Lib.hid (HS6.out.trans ⟨HK7.out, hsub7, HC7.out.mono hq4⟩)
          have HN4 : Hid (∀ y ∈ q4.all kb, y ∈ q.all kb ∨ wu.heap.size ≤ y) := Lib.hid (fun y hy => by
            rcases HS4.out.sub y hy with h1 | h1
            · exact HS2.out.2.1 y h1
            · have := HS2.out.2.2; exact .inr (by omega))
          have HW67 : Hid (wr.heap.size ≤ w6.heap.size ∧ w6.heap.size ≤ w7.heap.size) := Lib.hid (by
            have h1 := HC3.out.size; have h2 := HC4.out.size; have h3 := HKA.out.size; have h4 := HC7.out.size
            omega)
          have HU7 : Hid (OwnD w7 wo.heap.size (.slice (some ⟨gb, 0, none⟩) us.length uc) us) := Lib.hid (by
            have hg : wo.heap.size ≤ gb ∧ gb < wu.heap.size := World.ownsRow.lt HUO.out gb (by simp [Value.ownBlock])
            have hng : ∀ y ∈ q4.all kb, y ≠ gb := fun y hy => by
              rcases HN4.out y hy with h1 | h1
              · have h2 := HLT.out y h1; have h3 := HWO.out; omega
              · omega
            refine own_keep (own_keep (own_keep (own_keep HU2.out HC3.out (by simp)) HC4.out (fun y hy hm => ?_)) HKA.out (fun y hy hm => ?_)) HC7.out (fun y hy hm => ?_)
            · simp only [Value.ownBlock, Option.map_some, Option.some.injEq] at hy
              rcases HS2.out.2.1 y hm with h1 | h1
              · have h2 := HLT.out y h1; have h3 := HWO.out; omega
              · omega
            · exact own_type2 HU2.out HO2.out (by decide) y hy (Option.mem_toList.1 hm)
            · simp only [Value.ownBlock, Option.map_some, Option.some.injEq] at hy
              exact hng y (hq4 y hm) hy.symm)
          have HO7 : Hid (OwnE w7 w.heap.size (.slice oa2 (out' ++ [Ev.mk e0 e1 e2 e3 e4]).length oc2) (out' ++ [Ev.mk e0 e1 e2 e3 e4])) := Lib.hid (own_keep HON.out HC7.out (fun y hy hm => HS6.out.at_.ne_ev HON.out y hy (hq4 y hm)))
          have HDF2 : Hid (KOK { k4 with due := pushM (k4.l.length : Int) k4.due ⟨at_ + pp, i⟩ } (n + j2 + 1) ∧ k4.l = k'.l ∧ k4.now = k'.now ∧ k4.opn = k'.opn) := Lib.hid (by
            have h1 := HDF.out
            rw [HDE.out] at h1
            exact ⟨h1.1, h1.2.1, h1.2.2.1, h1.2.2.2.1⟩)
          have HSUB7 := Lib.hid hsub7
          clear hsub7 hq4
          go_wp2
          go_roundw
          case rel =>
            refine ⟨j2 + 1, { k4 with due := pushM (k4.l.length : Int) k4.due ⟨at_ + pp, i⟩ }, { q4 with da := a7, dc := c7 }, out' ++ [Ev.mk e0 e1 e2 e3 e4], oa2, oc2, by simp, by simp, Lib.hid ⟨by have := HN.out; omega, by rw [HTK.out, HDE.out], by have := HJ2.out.2.2; simp; omega⟩, Lib.hid ⟨HS7.out, fun y hy => ?_, by have h1 := HS2.out.2.2; have h2 := HW67.out; omega⟩, Lib.hid ⟨HDF2.out.1, HDF2.out.2.1.trans HOK2.out.2.1, HDF2.out.2.2.1.trans HOK2.out.2.2.1, HDF2.out.2.2.2.trans HOK2.out.2.2.2⟩, HO7, HU7⟩
            rcases HSUB7.out y hy with h1 | h1
            · exact HN4.out y h1
            · have h2 := HS2.out.2.2; have h3 := HW67.out; exact .inr (by omega)
          case measure =>
            have := HN.out
            simp [intOf]
            omega
        · have HJE2 : Hid (j2 = us.length) := Lib.hid (by have := HJ2.out.1; omega)
          have m1 : ¬ (j2 : Int) < (us.length : Int) := by omega
          clear hjl
          go_wp2
          have HJE3 : Hid ((untilM k.now k.due).1.foldl dueF ({ (openA k).1 with due := (untilM k.now k.due).2 }, (openA k).2) = (k', out')) := Lib.hid (by
            rw [HKA0.out.1, HKA0.out.2, HUM.out]
            have h1 := HJ2.out.2.1
            rw [HJE2.out, List.take_length] at h1; exact h1)
          have HL3 : Hid (out'.length ≤ 300) := Lib.hid (by have h1 := HJ2.out.2.2; have h2 := HUL.out.1; have h3 := HLT8.out; have h4 := HOE.out; have h5 := HJ2.out.1; rw [h4] at h1; simp at h1; omega)
          have HJ2L : Hid (j2 ≤ 8) := Lib.hid (by have h2 := HUL.out.1; have h5 := HJ2.out.1; omega)
          obtain ⟨wp, hwp⟩ : ∃ wp, wp = wr := ⟨_, rfl⟩
          subst hwp
          clear m1
          go_loopw [5, 101] (fun ov p wr => ∃ (j3 : Nat) (k3 : Kn) (q3 : KQ) (out3 : List Ev) (oa3 : Option Addr) (oc3 : Nat), ov = .slice oa3 out3.length oc3 ∧ p = .int .i64 j3 ∧ Hid (j3 ≤ sn ∧ (asks.take j3).foldl askF (k', out') = (k3, out3) ∧ out3.length = out'.length + j3) ∧ Hid (KStep w B kb (n + j2 + 2 * j3) q wr k3 q3) ∧ Hid (KOK k3 (n + j2 + 2 * j3) ∧ k3.l = k.l ∧ k3.now = k.now ∧ k3.opn = true) ∧ Hid (OwnE wr w.heap.size (.slice oa3 out3.length oc3) out3)) (fun _ p _ => sn - (intOf p).toNat)
          case atStart => exact ⟨0, k', q', out', oa', oc', rfl, rfl, Lib.hid ⟨by omega, rfl, rfl⟩, Lib.hid HS2.out.1, Lib.hid HOK2.out, HO2⟩
          case round =>
            obtain ⟨j3, k3, q3, out3, oa3, oc3, rfl, rfl, HJ3, HS3, HOK3, HO3⟩ := hrel
            by_cases hjl : j3 < sn
            · have m1 : (j3 : Int) < (sn : Int) := by omega
              obtain ⟨a, ha⟩ : ∃ a, asks[j3]? = some a := ⟨_, List.getElem?_eq_getElem (by rw [HSN.out]; exact hjl)⟩
              have HTK : Hid ((asks.take (j3 + 1)).foldl askF (k', out') = askF (k3, out3) a) := Lib.hid (by rw [List.take_add_one, ha, List.foldl_append, HJ3.out.2.1]; rfl)
              obtain ⟨rb, ro, rx, rc, -⟩ := reads_index (P := Tryd.prog) Tryd.underlying44 szInt (HR.out.1.chg HS3.out.chg (fun b hb => (HR.out.2 b hb).1))
              have ixr := rx j3 hjl
              rw [Nat.mul_one] at ixr
              have rcell := rc j3 (.int .i64 a) (by rw [intV, List.getElem?_map, ha]; rfl)
              have HN : Hid (j3 < sn) := Lib.hid hjl
              have h63 : ¬ (j3 : Int) + 1 > 9223372036854775807 := by have := HBT.out.2.2.1; omega
              have HPA := Lib.hid (passes_any B kb (n + j2 + 2 * j3) k3 q3 a wr HS3.out.at_ HOK3.out.1 (by have h1 := HJ2L.out; have h2 := HBT.out.2.2.1; omega))
              have HPO := Lib.hid (passM_ok HOK3.out.1 a)
              have HTB := Lib.hid (HS3.out.tab HBT.out.2.1 HBT.out.2.2.2)
              obtain ⟨i0, hi0, hz0, hz1, hz2⟩ := info_parts infoEv
              have HOL : Hid (out3.length ≤ 20300) := Lib.hid (by have h1 := HJ3.out.2.2; have h2 := HL3.out; have h3 := HBT.out.2.2.1; omega)
              have hb1 : out3.length + 1 ≤ maxLen := by have := HOL.out; unfold maxLen; omega
              have hb2 : (out3.length + 1) * 40 ≤ 140737488355328 := by have := HOL.out; omega
              clear hjl ha rx rc
              cases hpm : (passM k3 a).2 with
              | true =>
                obtain ⟨hask, hl, hnw, hop⟩ := passM_yes hpm
                obtain ⟨i, rfl, hil⟩ := askB_nat hask
                obtain ⟨kp, hkp⟩ : ∃ z, (passM k3 (i : Int)).1 = z := ⟨_, rfl⟩
                rw [hkp] at hl hnw hop HPO HPA
                rw [hpm] at HPA
                obtain ⟨⟨k4, ⟨e0, e1, e2, e3, e4⟩⟩, hlm⟩ : ∃ z, letM kp i = z := ⟨_, rfl⟩
                have HAF : Hid (askF (k3, out3) (i : Int) = (k4, out3 ++ [⟨e0, e1, e2, e3, e4⟩])) := Lib.hid (by unfold askF; rw [if_pos hpm, Int.toNat_natCast]; simp only [hkp, hlm])
                have HLE := Lib.hid (fun V qq (hV : KStep wr B kb (n + j2 + 2 * j3 + 1) q3 V kp qq) => let_any B kb (n + j2 + 2 * j3 + 1) kp qq i V hV.at_ (HPO.out.mono (Nat.le_succ _)) (hV.tab HTB.out.1 HTB.out.2).1 (by rw [hl]; exact hil) (by have h1 := HJ2L.out; have h2 := HBT.out.2.2.1; have h3 := HN.out; omega) (by have h1 := HBT.out.1; have h2 := HS3.out.chg.size; have h3 := hV.chg.size; omega))
                rw [hlm] at HLE
                simp only [Ev.val] at HLE
                have hk4 : k4 = { kp with led := (relM kp.led i kp.now).1 } := (congrArg Prod.fst hlm).symm
                have HK5 : Hid (k4.l = k3.l ∧ k4.now = k3.now ∧ k4.opn = k3.opn) := Lib.hid (by rw [hk4]; exact ⟨hl, hnw, hop⟩)
                have HKO5 : Hid (KOK k4 (n + j2 + 2 * (j3 + 1))) := Lib.hid (by
                  have h1 := letM_ok (HPO.out.mono (Nat.le_succ _)) i (by rw [hl]; exact hil)
                  rw [hlm] at h1
                  exact h1)
                clear hpm hask hl hnw hop hil hkp hlm hk4
                go_wp2_with (first
                  | (go_at_call 28; refine HPA.out.mono ?_; rintro e w3 ⟨rfl, hs3⟩; have HS4 := Lib.hid hs3; have HO4 : Hid (OwnE w3 w.heap.size (.slice oa3 out3.length oc3) out3) := Lib.hid (own_keep HO3.out hs3.chg (fun y hy hm => HS3.out.at_.ne_ev HO3.out y hy hm)); clear hs3)
                  | (go_at_call 27; refine (HLE.out w3 _ HS4.out).mono ?_; rintro e w5 ⟨rfl, q5, hs5⟩; have HS5 : Hid (KStep w B kb (n + j2 + 2 * (j3 + 1)) q w5 k4 q5) := Lib.hid ((HS3.out.trans HS4.out).trans hs5); have HO5 : Hid (OwnE w5 w.heap.size (.slice oa3 out3.length oc3) out3) := Lib.hid (own_keep HO4.out hs5.chg (fun y hy hm => HS4.out.at_.ne_ev HO4.out y hy hm)); have hcc := ev_cells w5 ⟨e0, e1, e2, e3, e4⟩; have hb3 : w.heap.size ≤ (w5.alloc (.cells #[.int .i64 e0, .int .i64 e1, .int .i64 e2, .int .i64 e3, .int .i64 e4] 41)).heap.size := (by rw [World.size_alloc]; have h1 := HS5.out.chg.size; omega); have hOA : OwnE (w5.alloc (.cells #[.int .i64 e0, .int .i64 e1, .int .i64 e2, .int .i64 e3, .int .i64 e4] 41)) w.heap.size (.slice oa3 out3.length oc3) out3 := own_keep HO5.out ((Chg.refl [] w5).alloc _) (by simp); clear hs5)
                  | (at_builtin; refine wpList_append_own_at _ rfl (.tmp 108) (.tmp 112) 36 rfl w.heap.size 41 i0 (.agg #[.int .i64 0, .int .i64 0, .int .i64 0, .int .i64 0, .int .i64 0]) 5 40 Tryd.underlying36 hi0 hz0 hz1 hz2 rfl (by decide) (.slice oa3 out3.length oc3) out3.length (out3.flatMap Ev.cells) rfl hOA ⟨w5.heap.size, 0, none⟩ 1 1 _ rfl rfl hcc (by simp [Value.oneCell', Ev.cells]) hb1 hb2 hb3 ?_; intro v' w6 hown' hgrow hnil hblk; obtain ⟨oa2, oc2, rfl⟩ := own_open hown'; have HKA := Lib.hid (((Chg.refl (Value.slice oa3 out3.length oc3).ownBlock.toList w5).alloc (.cells #[.int .i64 e0, .int .i64 e1, .int .i64 e2, .int .i64 e3, .int .i64 e4] 41)).grown hgrow (fun k hk => .inl (Option.mem_toList.2 hk))); have HON := Lib.hid (OwnE.snocS (e := ⟨e0, e1, e2, e3, e4⟩) hown'); clear hown' hgrow hnil hblk))
                have HOB : Hid (∀ y ∈ (Value.slice oa3 out3.length oc3).ownBlock.toList, w.heap.size ≤ y ∧ y ∉ q5.all kb) := Lib.hid (fun y hy => ⟨(World.ownsRow.lt HO5.out y (Option.mem_toList.1 hy)).1, HS5.out.at_.ne_ev HO5.out y (Option.mem_toList.1 hy)⟩)
                go_roundw
                case rel =>
                  refine ⟨j3 + 1, k4, q5, out3 ++ [Ev.mk e0 e1 e2 e3 e4], oa2, oc2, by simp, by simp, Lib.hid ⟨by have := HN.out; omega, by rw [HTK.out, HAF.out], by have := HJ3.out.2.2; simp; omega⟩, Lib.hid (HS5.out.scratch HKA.out HOB.out), Lib.hid ⟨HKO5.out, HK5.out.1.trans HOK3.out.2.1, HK5.out.2.1.trans HOK3.out.2.2.1, HK5.out.2.2.trans HOK3.out.2.2.2⟩, Lib.hid HON.out⟩
                case measure =>
                  have := HN.out
                  simp [intOf]
                  omega
              | false =>
                have hk3 := passM_no hpm
                rw [hpm, hk3] at HPA
                have HAF : Hid (askF (k3, out3) a = (k3, out3 ++ [⟨k.now, 2, a, 0, 0⟩])) := Lib.hid (by unfold askF Kn.ev; rw [if_neg (by rw [hpm]; decide)]; simp only [HOK3.out.2.2.1])
                have HK5 : Hid (k3.l = k3.l ∧ k3.now = k3.now ∧ k3.opn = k3.opn) := Lib.hid ⟨rfl, rfl, rfl⟩
                have HKO5 : Hid (KOK k3 (n + j2 + 2 * (j3 + 1))) := Lib.hid (HOK3.out.1.mono (by omega))
                clear hpm hk3
                go_wp2_with (first
                  | (go_at_call 28; refine HPA.out.mono ?_; rintro e w3 ⟨rfl, hs3⟩; have HS4 := Lib.hid hs3; have HO4 : Hid (OwnE w3 w.heap.size (.slice oa3 out3.length oc3) out3) := Lib.hid (own_keep HO3.out hs3.chg (fun y hy hm => HS3.out.at_.ne_ev HO3.out y hy hm)); have g5 := hs3.at_.cells.2.2.1; rw [HOK3.out.2.2.1] at g5; clear hs3)
                  | (go_at_call 25; refine (event_any kb k.now _ _ _ _ _ g5).mono ?_; rintro e w5 ⟨rfl, hc5⟩; have HS5 : Hid (KStep w B kb (n + j2 + 2 * (j3 + 1)) q w5 k3 q3) := Lib.hid (((HS3.out.trans HS4.out).fresh hc5).mono (by omega)); have HO5 : Hid (OwnE w5 w.heap.size (.slice oa3 out3.length oc3) out3) := Lib.hid (own_keep HO4.out hc5 (by simp)); have hcc := ev_cells w5 ⟨k.now, 2, a, 0, 0⟩; have hb3 : w.heap.size ≤ (w5.alloc (.cells #[.int .i64 k.now, .int .i64 2, .int .i64 a, .int .i64 0, .int .i64 0] 41)).heap.size := (by rw [World.size_alloc]; have h1 := HS5.out.chg.size; omega); have hOA : OwnE (w5.alloc (.cells #[.int .i64 k.now, .int .i64 2, .int .i64 a, .int .i64 0, .int .i64 0] 41)) w.heap.size (.slice oa3 out3.length oc3) out3 := own_keep HO5.out ((Chg.refl [] w5).alloc _) (by simp); clear hc5)
                  | (at_builtin; refine wpList_append_own_at _ rfl (.tmp 114) (.tmp 118) 36 rfl w.heap.size 41 i0 (.agg #[.int .i64 0, .int .i64 0, .int .i64 0, .int .i64 0, .int .i64 0]) 5 40 Tryd.underlying36 hi0 hz0 hz1 hz2 rfl (by decide) (.slice oa3 out3.length oc3) out3.length (out3.flatMap Ev.cells) rfl hOA ⟨w5.heap.size, 0, none⟩ 1 1 _ rfl rfl hcc (by simp [Value.oneCell', Ev.cells]) hb1 hb2 hb3 ?_; intro v' w6 hown' hgrow hnil hblk; obtain ⟨oa2, oc2, rfl⟩ := own_open hown'; have HKA := Lib.hid (((Chg.refl (Value.slice oa3 out3.length oc3).ownBlock.toList w5).alloc (.cells #[.int .i64 k.now, .int .i64 2, .int .i64 a, .int .i64 0, .int .i64 0] 41)).grown hgrow (fun k hk => .inl (Option.mem_toList.2 hk))); have HON := Lib.hid (OwnE.snocS (e := ⟨k.now, 2, a, 0, 0⟩) hown'); clear hown' hgrow hnil hblk))
                have HOB : Hid (∀ y ∈ (Value.slice oa3 out3.length oc3).ownBlock.toList, w.heap.size ≤ y ∧ y ∉ q3.all kb) := Lib.hid (fun y hy => ⟨(World.ownsRow.lt HO5.out y (Option.mem_toList.1 hy)).1, HS5.out.at_.ne_ev HO5.out y (Option.mem_toList.1 hy)⟩)
                go_roundw
                case rel =>
                  refine ⟨j3 + 1, k3, q3, out3 ++ [Ev.mk k.now 2 a 0 0], oa2, oc2, by simp, by simp, Lib.hid ⟨by have := HN.out; omega, by rw [HTK.out, HAF.out], by have := HJ3.out.2.2; simp; omega⟩, Lib.hid (HS5.out.scratch HKA.out HOB.out), Lib.hid ⟨HKO5.out, HOK3.out.2⟩, Lib.hid HON.out⟩
                case measure =>
                  have := HN.out
                  simp [intOf]
                  omega
            · have HJE4 : Hid (j3 = sn) := Lib.hid (by have := HJ3.out.1; omega)
              have m1 : ¬ (j3 : Int) < (sn : Int) := by omega
              clear hjl
              go_wp2
              go_ret
              have hom : openM k asks = (k3, out3) := by
                unfold openM
                rw [HJE3.out]
                have h1 := HJ3.out.2.1
                rw [HJE4.out, ← HSN.out, List.take_length] at h1
                exact h1
              rw [hom]
              have hnn : n + j2 + 2 * j3 ≤ n + 8 + 2 * sn := by have h1 := HJ2L.out; have h2 := HJE4.out; omega
              exact ⟨_, rfl, HO3.out, ⟨q3, HS3.out.mono hnn⟩, HOK3.out.1.mono hnn⟩
end Go.Proofs.YtfkokbeloenfdaaDoor.krn
