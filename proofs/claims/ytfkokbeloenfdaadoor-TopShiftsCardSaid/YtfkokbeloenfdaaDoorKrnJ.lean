/- The kernel: bitmap.Pick. -/
import Derived.Test.YtfkokbeloenfdaaDoorKrnI
import Derived.Shelf.RegionOpen
import Derived.Test.YtfkokbeloenfdaaDoorQuietR
namespace Go.Proofs.YtfkokbeloenfdaaDoor.krn
open Go Go.RowKit Go.Proofs.YtfkokbeloenfdaaDoor.kit Go.Shelf
set_option linter.unusedVariables false
set_option linter.unusedSimpArgs false
set_option maxRecDepth 20000
attribute [local go_sem] Oper.semAt_some
theorem szInt : (Tryd.prog.info? 3).map (·.size) = some 1 := by kernel_rfl
def pickS (prio : List Int) (best : Int) (i : Nat) : Int := if best < 0 then i else if prio.getD best.toNat 0 < prio.getD i 0 then i else best
def pickM (prio : List Int) (m : Nat) : Int := (bitsM m).foldl (pickS prio) (-1)
def intV (xs : List Int) : List Value := xs.map fun (x : Int) => Value.int .i64 x
def PPick (prio : List Int) (pv : Value) (G : Nat) (W : World) (pre : List Nat) (V : World) : Prop :=
  (Blk V G #[pv] 44 ∧ Blk V (G + 1) #[.int .i64 (pre.foldl (pickS prio) (-1))] 3) ∧ Chg [] W V
theorem PPick.keep {prio : List Int} {pv : Value} {G : Nat} {W A B : World} {pre : List Nat} {M : List Nat} (h : PPick prio pv G W pre A) (k : Chg M A B) (hM : ∀ y ∈ M, W.heap.size ≤ y ∧ G + 1 < y) : PPick prio pv G W pre B :=
  ⟨⟨h.1.1.keep k (fun hm => by have := hM _ hm; omega), h.1.2.keep k (fun hm => by have := hM _ hm; omega)⟩, h.2.into k (fun y hy => .inr (hM y hy).1)⟩
theorem pickS_bd (prio : List Int) : ∀ (pre : List Nat) (b : Int), (-1 ≤ b ∧ b < prio.length) → (∀ i ∈ pre, i < prio.length) → -1 ≤ pre.foldl (pickS prio) b ∧ pre.foldl (pickS prio) b < prio.length
  | [], b, h, _ => h
  | i :: pre, b, h, hi => by
    rw [List.foldl_cons]
    refine pickS_bd prio pre _ ?_ (fun x hx => hi x (by simp [hx]))
    have := hi i (by simp)
    unfold pickS
    split
    · omega
    · split <;> omega
set_option maxHeartbeats 2000000 in
theorem Pick_any (pa : Option Addr) (pc : Nat) (prio : List Int) (m : Nat) (W : World) (hr : Reads W 1 (.slice pa prio.length pc) prio.length (intV prio)) (hm : m < 256) (hT : bitm.Tab W) (hlt : ∀ i ∈ bitsM m, i < prio.length) (hpl : prio.length ≤ 64) :
    Calls Tryd.prog 29 #[.slice pa prio.length pc, .int .u64 (m : Int)] W fun e W' => e = .returned (.tuple #[.int .i64 (max (pickM prio m) 0), .bool (decide (0 ≤ pickM prio m))]) ∧ Chg [] W W' := by
  refine (callsIn_wide (n := 5)).1 ?_
  refine callsIn_of_wp_marks Tryd.func29 rfl trivial ?_ rfl
  simp only [Tryd.ntmps29, List.size_toArray, List.length_cons, List.length_nil, Nat.reduceAdd, Nat.reduceSub, Array.replicate_succ, Array.replicate_zero, List.push_toArray, List.append_toArray, List.nil_append, List.cons_append]
  have HR := Lib.hid hr
  have HM := Lib.hid hm
  have HT := Lib.hid hT
  have HLT := Lib.hid hlt
  have HPL := Lib.hid hpl
  obtain ⟨b1, o1, hx1, hc1, -⟩ := reads_index (P := Tryd.prog) Tryd.underlying44 szInt hr
  have HX1 := Lib.hid hx1
  have HC1 := Lib.hid hc1
  clear hr hm hT hlt hpl hx1 hc1
  gi_wp2_with (refine ⟨trivial, ?_⟩; gi_at_call 44; refine (callsIn_wide.2 (all_any m _)).mono ?_; rintro e w' ⟨rfl, rfl⟩)
  obtain ⟨w0, hw0⟩ : ∃ w0, (((W.alloc (.cells #[.slice pa prio.length pc] 44)).alloc (.cells #[.int .i64 (-1)] 3)).alloc (.cells #[.int .u64 (m : Int)] 82)) = w0 := ⟨_, rfl⟩
  have hsz : w0.heap.size = W.heap.size + 3 := by rw [← hw0]; simp
  have hch : Chg [] W w0 := by rw [← hw0]; exact (((Chg.refl [] W).alloc _).alloc _).alloc _
  have hb0 : Blk w0 W.heap.size #[.slice pa prio.length pc] 44 := by rw [← hw0]; exact ((Blk.new W _ _).alloc _).alloc _
  have hb1 : Blk w0 (W.heap.size + 1) #[.int .i64 (-1)] 3 := by
    have := (Blk.new (W.alloc (.cells #[.slice pa prio.length pc] 44)) #[.int .i64 (-1)] 3).alloc (.cells #[.int .u64 (m : Int)] 82)
    rw [hw0] at this
    simpa using this
  have hb2 : Blk w0 (W.heap.size + 1 + 1) #[.int .u64 (m : Int)] 82 := by
    have := Blk.new ((W.alloc (.cells #[.slice pa prio.length pc] 44)).alloc (.cells #[.int .i64 (-1)] 3)) #[.int .u64 (m : Int)] 82
    rw [hw0] at this
    simpa using this
  rw [hw0]
  clear hw0
  refine wpIn_rangeFunc_chg2 (α := Nat) rfl (by omega) (gf := 57) (lb := #[.pointer (some ⟨W.heap.size + 1 + 1, 0, none⟩)]) rfl trivial (enters_of Tryd.func57 (by kernel_rfl) rfl)
    (all1_ok 4 (by omega) (W.heap.size + 1 + 1) m (by have := HM.out; omega) w0 hb2 (HT.out.keep hch) (by omega)) (fun b hb => by simp at hb; omega)
    (fun xs B o' r hl hS => hS) (fun A B o' r hl hk => KpH.put (fun k hk => by simp at hk; omega) hk) (fun _ => rfl)
    (PPick prio (.slice pa prio.length pc) W.heap.size W) (fun _ _ _ => False) ?hI ?hIx ?h0 ?hround ?hdone ?hstop
  case hI => exact fun pre A B r h _ k => h.keep k (by simp; omega)
  case hIx => exact fun c pre A B r h _ k => h
  case h0 => exact fun V k => ⟨⟨hb0.keep k (by simp), hb1.keep k (by simp)⟩, hch.trans k⟩
  case hround =>
    rintro pre x V r hPI hR hD hl
    gi_wp2
    refine ⟨hl, ?_⟩
    obtain ⟨r', hr'⟩ : ∃ r', ({ r with state := .busy } : Loop) = r' := ⟨_, rfl⟩
    rw [hr']
    obtain ⟨V1, hV1⟩ : ∃ V1, V.putObj (w0.heap.size + 1) (.loop r') = V1 := ⟨_, rfl⟩
    rw [hV1]
    have hlt : w0.heap.size + 1 < V.heap.size := (Array.getElem?_eq_some_iff.1 hl).1
    have hcV : Chg [w0.heap.size + 1] V V1 := by rw [← hV1]; exact (Chg.refl [w0.heap.size + 1] V).putObj hl (.inl (by simp)) _
    have hPI1 := hPI.keep hcV (by simp; omega)
    have hl1 : V1.heap[w0.heap.size + 1]? = some (.loop r') := by rw [← hV1]; exact World.putObj_heap_same hlt
    have hD1 : V1.heap[w0.heap.size]? = some (.deferred (some [])) := hcV.heap hD (by simp)
    have hmem : ∀ i ∈ pre ++ [x], i < prio.length := fun i hi => HLT.out i (List.IsPrefix.mem hi hR)
    have hx : x < prio.length := hmem x (by simp)
    have hbd := pickS_bd prio pre (-1) (by omega) (fun i hi => hmem i (by simp [hi]))
    have HKP : Hid (∀ M V2, Chg M V1 V2 → (∀ y ∈ M, y = W.heap.size + 1) → (V2.heap[w0.heap.size]? = some (.deferred (some [])) ∧ V2.heap[w0.heap.size + 1]? = some (.loop r')) ∧ KpH [W.heap.size + 1 + 1, 0] V V2) := Lib.hid (fun M V2 hk hM => ⟨⟨hk.heap hD1 (fun hm => by have := hM _ hm; omega), hk.heap hl1 (fun hm => by have := hM _ hm; omega)⟩, Nat.le_trans hcV.size hk.size, fun y hy => by
      simp only [List.mem_cons, List.not_mem_nil, or_false] at hy
      have hpos := HT.out.pos
      have h9 : y < V.heap.size := by omega
      rw [hk.block y (Nat.lt_of_lt_of_le h9 hcV.size) (fun hm => by have := hM y hm; omega), hcV.block y h9 (by simp; omega)]⟩)
    have hfs : (pre ++ [x]).foldl (pickS prio) (-1) = pickS prio (pre.foldl (pickS prio) (-1)) x := by rw [List.foldl_append]; rfl
    obtain ⟨bs, hbs⟩ : ∃ bs, pre.foldl (pickS prio) (-1) = bs := ⟨_, rfl⟩
    obtain ⟨⟨h0, h1⟩, hcw⟩ := hPI1
    rw [hbs] at h1 hfs hbd
    have HFS := Lib.hid hfs
    have HCW := Lib.hid hcw
    have H0 := Lib.hid h0
    have H1 := Lib.hid h1
    have HBD := Lib.hid hbd
    have c0 : V1.cell? ⟨W.heap.size, 0, none⟩ = some (.slice pa prio.length pc) := h0.cell rfl
    have c1 : V1.cell? ⟨W.heap.size + 1, 0, none⟩ = some (.int .i64 bs) := h1.cell rfl
    have f1 := h1.free 0
    have m1 : ¬ (prio.length : Int) ≤ (x : Int) := by omega
    have hmx : Tryd.prog.follows .mixedOrders = true := by kernel_rfl
    have g1 := HX1.out x hx
    have q1 : V1.cell? ⟨b1, o1 + x, none⟩ = some (.int .i64 (prio.getD x 0)) := HCW.out.keep (HC1.out x _ (by rw [intV, List.getElem?_map, List.getD_eq_getElem?_getD, List.getElem?_eq_getElem hx]; rfl)) (by simp)
    have HXX := Lib.hid hx
    clear hPI hl hD hV1 hlt hcV hl1 hD1 hmem hbd hr' hbs hfs hcw h0 h1 hR hsz hch hb0 hb1 hb2
    have HEND : Hid (∀ V2, Chg [W.heap.size + 1] V1 V2 → Blk V2 (W.heap.size + 1) #[.int .i64 (pickS prio bs x)] 3 → (V2.heap[w0.heap.size]? = some (.deferred (some [])) ∧ V2.heap[w0.heap.size + 1]? = some (.loop r')) ∧ KpH [W.heap.size + 1 + 1, 0] V V2 ∧ PPick prio (.slice pa prio.length pc) W.heap.size W (pre ++ [x]) V2) := Lib.hid (fun V2 hk hb => by
      obtain ⟨q1, q2⟩ := HKP.out _ V2 hk (by simp)
      refine ⟨q1, q2, ⟨H0.out.keep hk (by simp), ?_⟩, HCW.out.into hk (by simp)⟩
      rw [HFS.out]; exact hb)
    by_cases hneg : bs < 0
    · have HPS : Hid (pickS prio bs x = (x : Int)) := Lib.hid (by unfold pickS; rw [if_pos hneg])
      have hd : decide (bs < 0) = true := decide_eq_true hneg
      gi_wp2
      refine Go.Proofs.YtfkokbeloenfdaaDoor.kit.wpIn_region_quiet_r (by kernel_rfl) (by kernel_rfl) (by kernel_rfl) ?_
      repeat (gi_big_quiet_step (fail))
      refine wpQuietIn_nil ?_
      intro _ hw'
      obtain ⟨nq, hw''⟩ := hw'
      subst hw''
      gi_wp2
      exact HEND.out _ (((Chg.refl _ V1).drewN nq).setCell (.inl (by simp)) _) (by rw [HPS.out]; exact (H1.out.drewN nq).set 0 _)
    · obtain ⟨bn, rfl⟩ : ∃ bn : Nat, bs = (bn : Int) := ⟨bs.toNat, by omega⟩
      have hd : decide ((bn : Int) < 0) = false := decide_eq_false hneg
      have hbn : bn < prio.length := by have := HBD.out; omega
      have g2 := HX1.out bn hbn
      have q2 : V1.cell? ⟨b1, o1 + bn, none⟩ = some (.int .i64 (prio.getD bn 0)) := HCW.out.keep (HC1.out bn _ (by rw [intV, List.getElem?_map, List.getD_eq_getElem?_getD, List.getElem?_eq_getElem hbn]; rfl)) (by simp)
      obtain ⟨px, hpx⟩ : ∃ z, prio.getD x 0 = z := ⟨_, rfl⟩
      obtain ⟨pb, hpb⟩ : ∃ z, prio.getD bn 0 = z := ⟨_, rfl⟩
      have hps : pickS prio (bn : Int) x = if pb < px then (x : Int) else (bn : Int) := by unfold pickS; rw [if_neg hneg, Int.toNat_natCast, hpx, hpb]
      rw [hpx] at q1
      rw [hpb] at q2
      clear hpx hpb hbn hneg
      by_cases hlt : pb < px
      · have HPS : Hid (pickS prio (bn : Int) x = (x : Int)) := Lib.hid (by rw [hps, if_pos hlt])
        clear hps
        gi_wp2
        refine Go.Proofs.YtfkokbeloenfdaaDoor.kit.wpIn_region_quiet_r (by kernel_rfl) (by kernel_rfl) (by kernel_rfl) ?_
        repeat (gi_big_quiet_step (fail))
        refine wpQuietIn_nil ?_
        intro _ hw'
        obtain ⟨nq, hw''⟩ := hw'
        subst hw''
        gi_wp2
        exact HEND.out _ (((Chg.refl _ V1).drewN nq).setCell (.inl (by simp)) _) (by rw [HPS.out]; exact (H1.out.drewN nq).set 0 _)
      · have HPS : Hid (pickS prio (bn : Int) x = (bn : Int)) := Lib.hid (by rw [hps, if_neg hlt])
        have hlt2 : px ≤ pb := by omega
        clear hps
        gi_wp2
        refine Go.Proofs.YtfkokbeloenfdaaDoor.kit.wpIn_region_quiet_r (by kernel_rfl) (by kernel_rfl) (by kernel_rfl) ?_
        repeat (gi_big_quiet_step (fail))
        refine wpQuietIn_nil ?_
        intro _ hw'
        obtain ⟨nq, hw''⟩ := hw'
        subst hw''
        gi_wp2
        exact HEND.out _ ((Chg.refl _ V1).drewN nq) (by rw [HPS.out]; exact H1.out.drewN nq)
  case hdone =>
    rintro xs V rfl ⟨⟨h0, h1⟩, hcw⟩ hK
    have HK := Lib.hid hK
    have HCW := Lib.hid hcw
    have c1 : V.cell? ⟨W.heap.size + 1, 0, none⟩ = some (.int .i64 (pickM prio m)) := h1.cell rfl
    obtain ⟨bs, hbs⟩ : ∃ z, pickM prio m = z := ⟨_, rfl⟩
    rw [hbs] at c1
    have HBS := Lib.hid hbs
    have hmx : Tryd.prog.follows .mixedOrders = true := by kernel_rfl
    have HSZ := Lib.hid hsz
    clear h0 h1 hK hcw hsz hch hb0 hb1 hb2 hbs
    by_cases hge : 0 ≤ bs
    all_goals gi_wp2
    all_goals gi_region_o
    all_goals gi_wp2
    all_goals refine ⟨by simp, .inl ⟨_, _, rfl, run_takeDeferred HK.out, ?_⟩⟩
    all_goals have hk : Chg [w0.heap.size] V (V.drew.putObj w0.heap.size (.deferred none)) := ((Chg.refl _ V).drew).putObj HK.out (.inl (by simp)) _
    · refine ⟨_, results_tmp2 rfl _ _ _, ?_⟩
      refine ⟨?_, HCW.out.into hk (by have := HSZ.out; simp; omega)⟩
      rw [HBS.out, show max bs 0 = bs by omega, decide_eq_true hge]
      rfl
    · refine ⟨_, results_tmp2 rfl _ _ _, ?_⟩
      refine ⟨?_, HCW.out.into hk (by have := HSZ.out; simp; omega)⟩
      rw [HBS.out, show max bs 0 = 0 by omega, decide_eq_false (show ¬ (0 : Int) ≤ bs by omega)]
      rfl
  case hstop => exact fun c pre V hSp h hK => h.elim
end Go.Proofs.YtfkokbeloenfdaaDoor.krn
