/- Scripts: what is asked for: script.Asks, script.At. -/
import Derived.Test.YtldbaommeflooaaDoorScrG
namespace Go.Proofs.YtldbaommeflooaaDoor.scr
open Go Go.RowKit Go.Proofs.YtldbaommeflooaaDoor.kit Go.Proofs.YtldbaommeflooaaDoor.word Go.Shelf
set_option linter.unusedVariables false
set_option linter.unusedSimpArgs false
set_option maxRecDepth 20000
attribute [local go_sem] Oper.semAt_some
theorem filterMap_snoc_due (pre : List (Int × Ac)) (t : Int) (k n : Int) (hk : k = 2) : (pre ++ [(t, Ac.mk k n)]).filterMap dueOf = pre.filterMap dueOf ++ [⟨t, n⟩] := by
  subst hk
  simp [dueOf]
theorem filterMap_snoc_no (pre : List (Int × Ac)) (t : Int) (k n : Int) (hk : ¬ k = 2) : (pre ++ [(t, Ac.mk k n)]).filterMap dueOf = pre.filterMap dueOf := by
  simp [dueOf, hk]
theorem KpW.put {n₀ b D : Nat} {A B : World} {o' : Obj} {r : Loop} (hn : n₀ ≤ D) (hb : b < D) (hl : B.heap[D + 1]? = some (.loop r)) (h : KpW n₀ b A B) : KpW n₀ b A (B.putObj (D + 1) o') := by
  obtain ⟨h1, h2, h3, h4⟩ := h
  refine ⟨by simpa [World.putObj] using h1, fun k hk => by rw [World.putObj_heap_other (by omega)]; exact h2 k hk, by rw [World.putObj_heap_other (by omega)]; exact h3, fun c T hc => ?_⟩
  have h5 := h4 c T hc
  rw [World.putObj_heap_other]
  · exact h5
  · rintro he
    rw [he, hl] at h5
    cases h5
theorem KpW.of_chg {n₀ b : Nat} {A B : World} {L : List Nat} (k : Chg L A B) (hn : n₀ ≤ A.heap.size) (hb : b < A.heap.size) (hL : ∀ y ∈ L, n₀ ≤ y ∧ y ≠ b) (hq : ∀ c T, A.heap[A.heap.size - 1]? = some (.cells c T (0, 0)) → A.heap.size - 1 ∉ L) : KpW n₀ b A B :=
  ⟨k.size, fun x hx => k.block x (by omega) (fun hm => by have := hL x hm; omega), k.block b hb (fun hm => (hL b hm).2 rfl), fun c T hc => k.heap hc (hq c T hc)⟩
set_option maxHeartbeats 1000000 in
theorem Asks_any (va : Option Addr) (lc : Nat) (l : List Ac) (W : World) (hr : ReadsA W (.slice va l.length lc) l) (hlen : l.length ≤ 65536) :
    Calls Tryd.prog 14 #[.slice va l.length lc] W fun e W' => ∃ v, e = .returned v ∧ OwnD W' W.heap.size v (asksL l) ∧ Chg [] W W' := by
  refine (callsIn_wide (n := 5)).1 ?_
  refine callsIn_of_wp_marks Tryd.func14 rfl trivial ?_ rfl
  simp only [Tryd.ntmps14, List.size_toArray, List.length_cons, List.length_nil, Nat.reduceAdd, Nat.reduceSub, Array.replicate_succ, Array.replicate_zero, List.push_toArray, List.append_toArray, List.nil_append, List.cons_append]
  have HLEN := Lib.hid hlen
  have HRA := Lib.hid hr
  clear hlen hr
  gi_wp2_with (refine ⟨trivial, ?_⟩; gi_at_call 26; refine (callsIn_wide.2 (walk_any _ _ va l.length lc rfl)).mono ?_; rintro e w' ⟨rfl, rfl⟩)
  obtain ⟨w0, hw0⟩ : ∃ w0, ((W.alloc (.cells #[.slice none 0 0] 24)).alloc (.cells #[.slice va l.length lc] 22)) = w0 := ⟨_, rfl⟩
  have hsz : w0.heap.size = W.heap.size + 2 := by rw [← hw0]; simp
  have hch : Chg [] W w0 := by rw [← hw0]; exact ((Chg.refl [] W).alloc _).alloc _
  have hb2 : Blk w0 W.heap.size #[.slice none 0 0] 24 := by rw [← hw0]; exact (Blk.new W _ _).alloc _
  have hb3 : Blk w0 (W.heap.size + 1) #[.slice va l.length lc] 22 := by
    have := Blk.new (W.alloc (.cells #[.slice none 0 0] 24)) #[.slice va l.length lc] 22
    rw [hw0] at this
    simpa using this
  rw [hw0]
  clear hw0
  have hkp : ∀ k, k < W.heap.size → w0.heap[k]? = W.heap[k]? := fun k hk => hch.block k hk (by simp)
  refine wpIn_rangeFunc_chg (α := Int × Ac) rfl (by omega) (gf := 38) (lb := #[.pointer (some ⟨W.heap.size + 1, 0, none⟩)]) rfl trivial (enters_of Tryd.func38 (by kernel_rfl) rfl)
    (walk1_ok 4 (by omega) (W.heap.size + 1) va lc l W HRA.out w0 hkp hb3) (fun b hb => by simp at hb)
    (fun A B o' r hl hk => KpW.put (by omega) (by omega) hl hk) (fun _ => rfl)
    (PA W.heap.size w0.heap.size W) (fun _ _ _ => False) ?hI ?hIx ?h0 ?hround ?hdone ?hstop
  case hI => exact fun pre A B r h _ k => h.keep k (by simp; omega)
  case hIx => exact fun c pre A B r h _ k => h
  case h0 => exact fun V k => ⟨.slice none 0 0, hb2.keep k (by simp), World.ownsRow_nil .., hch.trans k⟩
  case hround =>
    rintro pre ⟨t, ⟨ka, na⟩⟩ V r hPI hR hD hl
    gi_wp2
    have hlt : w0.heap.size + 1 < V.heap.size := (Array.getElem?_eq_some_iff.1 hl).1
    obtain ⟨r', hr'⟩ : ∃ r', ({ r with state := .busy } : Loop) = r' := ⟨_, rfl⟩
    rw [hr']
    obtain ⟨V1, hV1⟩ : ∃ V1, (V.alloc (.cells #[.int .i64 ka, .int .i64 na] 43)).putObj (w0.heap.size + 1) (.loop r') = V1 := ⟨_, rfl⟩
    rw [hV1]
    have hlA := ((Chg.refl [] V).alloc (.cells #[.int .i64 ka, .int .i64 na] 43)).heap hl (by simp)
    refine ⟨hlA, ?_⟩
    have hcV : Chg [w0.heap.size + 1] V V1 := by rw [← hV1]; exact ((Chg.refl [w0.heap.size + 1] V).alloc _).putObj hlA (.inl (by simp)) _
    have hPI1 := hPI.keep hcV (by simp; omega)
    have hl1 : V1.heap[w0.heap.size + 1]? = some (.loop r') := by rw [← hV1]; exact World.putObj_heap_same (by simp; omega)
    have hD1 : V1.heap[w0.heap.size]? = some (.deferred (some [])) := hcV.heap hD (by simp)
    have hact : Blk V1 V.heap.size #[.int .i64 ka, .int .i64 na] 43 := by
      rw [← hV1]
      exact (World.putObj_heap_other (by omega)).trans (Blk.new V _ _)
    have hVs : V.heap.size < V1.heap.size := hact.lt
    have hl0 := hl
    clear hPI hl hD hV1 hr' hlA
    obtain ⟨v, h5, hown, hcw⟩ := hPI1
    obtain ⟨a', c', rfl, hle⟩ := reads_slice (Reads.of_own hown (by decide))
    obtain ⟨acc, hacc⟩ : ∃ acc, pre.filterMap dueOf = acc := ⟨_, rfl⟩
    rw [hacc] at h5 hown hle
    have hal : acc.length < 65536 := by
      have h1 := hR.1.length_le
      rw [walkL_len] at h1
      have h2 := List.length_filterMap_le dueOf pre
      rw [hacc] at h2
      have h3 := HLEN.out
      simp at h1; omega
    have c5 : V1.cell? ⟨W.heap.size, 0, none⟩ = some (.slice a' acc.length c') := h5.cell rfl
    have f5 := h5.free 0
    have k0 : V1.cell? ⟨V.heap.size, 0, none⟩ = some (.int .i64 ka) := hact.cell rfl
    have k1 : V1.cell? ⟨V.heap.size, 1, none⟩ = some (.int .i64 na) := hact.cell rfl
    have HR := Lib.hid hR
    have HCV := Lib.hid hcV
    have HOWN := Lib.hid hown
    have HLE := Lib.hid hle
    have HCW := Lib.hid hcw
    have HAL := Lib.hid hal
    have HACC := Lib.hid hacc
    have HD := Lib.hid (⟨hD1, hl1⟩ : _ ∧ _)
    have HSZ := Lib.hid (⟨hsz, hlt, hVs⟩ : _ ∧ _ ∧ _)
    have HL0 := Lib.hid hl0
    have H5 := Lib.hid h5
    have HLS : ∀ (L : List Nat) (V2 : World), Chg L V1 V2 → (∀ y ∈ L, W.heap.size ≤ y ∧ y ≠ W.heap.size + 1 ∧ y ≠ w0.heap.size ∧ y ≠ w0.heap.size + 1) → (V.heap.size - 1 ∉ L) → (V2.heap[w0.heap.size]? = some (.deferred (some [])) ∧ V2.heap[w0.heap.size + 1]? = some (.loop r')) ∧ KpW W.heap.size (W.heap.size + 1) V V2 := fun L V2 hk hL hq => by
      have hs := HSZ.out
      obtain ⟨-, hz, c, hq0⟩ := HR.out
      refine ⟨⟨hk.heap HD.out.1 (fun hm => (hL _ hm).2.2.1 rfl), hk.heap HD.out.2 (fun hm => (hL _ hm).2.2.2 rfl)⟩, ?_⟩
      have hkk : Chg ((w0.heap.size + 1) :: L) V V2 := (HCV.out.mono (by simp)).trans (hk.mono fun x hx => List.mem_cons_of_mem _ hx)
      refine KpW.of_chg hkk (by omega) (by omega) (fun y hy => ?_) (fun c' T hc' hm => ?_)
      · rcases List.mem_cons.1 hy with rfl | hy
        · omega
        · have := hL y hy; omega
      · rcases List.mem_cons.1 hm with h | h
        · rw [h, HL0.out] at hq0
          cases hq0
        · exact hq h
    have HLK := Lib.hid HLS
    clear hl0 hR hcV hown hle hcw hal hacc hD1 hl1 hlt hVs h5 hact hsz hch hb2 hb3 hkp HLS
    obtain ⟨i0, hi, hz0, hz1, hz2⟩ := info_parts infoDue
    by_cases c1 : ka = 2
    · subst c1
      have hb1 : acc.length + 1 ≤ maxLen := by have := HAL.out; unfold maxLen; omega
      have hb2 : (acc.length + 1) * 16 ≤ 140737488355328 := by have := HAL.out; omega
      have HOA : (V1.alloc (.cells #[.int .i64 t, .int .i64 na] 28)).ownsRow (w0.heap.size + 2) 28 2 (.slice a' acc.length c') acc.length (acc.flatMap Du.cells) := OwnD.keep HOWN.out ((Chg.refl [] _).alloc _) (by simp)
      have hcc := two_cells V1 (.int .i64 t) (.int .i64 na) 28
      have hb3 : w0.heap.size + 2 ≤ (V1.alloc (.cells #[.int .i64 t, .int .i64 na] 28)).heap.size := by rw [World.size_alloc]; have := HSZ.out; omega
      have HOL := Lib.hid (fun y hy => (World.ownsRow.lt HOWN.out y hy).1)
      gi_wp2_with (gi_at_builtin; refine wpListIn_append_own_at _ rfl (.tmp 13) (.tmp 18) 24 rfl (w0.heap.size + 2) 28 i0 (.agg #[.int .i64 0, .int .i64 0]) 2 16 Tryd.underlying24 hi hz0 hz1 hz2 rfl (by decide) (.slice a' acc.length c') acc.length (acc.flatMap Du.cells) rfl HOA ⟨V1.heap.size, 0, none⟩ 1 1 [.int .i64 t, .int .i64 na] rfl rfl hcc (by simp [Value.oneCell']) hb1 hb2 hb3 ?_; intro v' w' hown' hgrow hnil hblk; obtain ⟨g', cap', rfl⟩ := ownsRow_succ hown'; have hka := ((Chg.refl (Value.slice a' acc.length c').ownBlock.toList V1).alloc _).grown hgrow (fun k hk => .inl (Option.mem_toList.2 hk)); have HKA := Lib.hid hka; have HON := Lib.hid hown'; have hnb : ∀ q, q < w0.heap.size + 2 → q ∉ (Value.slice a' acc.length c').ownBlock.toList := fun q hq hm => (by have := HOL.out q (Option.mem_toList.1 hm); omega); have HNB := Lib.hid hnb; have h5b := H5.out.keep hka (hnb _ (by have := HSZ.out; omega)); have H5B := Lib.hid h5b; have c5b : w'.cell? ⟨W.heap.size, 0, none⟩ = some (.slice a' acc.length c') := h5b.cell rfl; have f5b := h5b.free 0; clear hka hown' hgrow hnil hblk hnb h5b)
      have hz := HSZ.out
      have HKB : Hid (Chg (W.heap.size :: (Value.slice a' acc.length c').ownBlock.toList) V1 (w'.setCell ⟨W.heap.size, 0, none⟩ (.slice (some ⟨g', 0, none⟩) (acc.length + 1) cap'))) :=
        Lib.hid ((HKA.out.mono (fun y hy => List.mem_cons_of_mem _ hy)).setCell (.inl (by simp)) _)
      obtain ⟨h1, h2⟩ := HLK.out _ _ HKB.out (fun y hy => by
        rcases List.mem_cons.1 hy with rfl | hy
        · omega
        · have := HOL.out y (Option.mem_toList.1 hy); omega) (fun hm => by
        obtain ⟨-, hz0', c, hq0⟩ := HR.out
        rcases List.mem_cons.1 hm with h | h
        · have e1 := HCV.out.heap hq0 (fun hm => by have he := List.mem_singleton.1 hm; rw [he, HL0.out] at hq0; cases hq0)
          rw [h, H5.out] at e1
          simp at e1
        · have e1 := HCV.out.heap hq0 (fun hm => by have he := List.mem_singleton.1 hm; rw [he, HL0.out] at hq0; cases hq0)
          exact HOWN.out.not_act e1 h)
      refine ⟨h1, h2, .slice (some ⟨g', 0, none⟩) (acc.length + 1) cap', H5B.out.set 0 _, ?_, HCW.out.into HKB.out ?_⟩
      · rw [filterMap_snoc_due _ _ _ _ rfl, HACC.out]
        refine OwnD.keep (L := [W.heap.size]) ?_ ((Chg.refl _ w').setCell (.inl (by simp)) _) (by simp; omega)
        unfold OwnD
        rw [List.length_append, List.flatMap_append]
        simpa [Du.cells] using HON.out
      · intro y hy
        rcases List.mem_cons.1 hy with h | h
        · exact .inr (by omega)
        · have := HOL.out y (Option.mem_toList.1 h)
          exact .inr (by omega)
    · have c1' : (ka == 2) = false := by simpa using c1
      have HC1 := Lib.hid c1
      clear c1
      gi_wp2
      obtain ⟨h1, h2⟩ := HLK.out [] V1 (Chg.refl _ _) (by simp) (by simp)
      refine ⟨h1, h2, .slice a' acc.length c', H5.out, ?_, HCW.out⟩
      rw [filterMap_snoc_no _ _ _ _ HC1.out, HACC.out]
      exact HOWN.out
  case hdone =>
    rintro xs V rfl ⟨v, h5, hown, hcw⟩ hK
    obtain ⟨a', c', rfl, hle⟩ := reads_slice (Reads.of_own hown (by decide))
    have HOWN := Lib.hid hown
    have HCW := Lib.hid hcw
    have HK := Lib.hid hK
    have HSZ := Lib.hid hsz
    have c5 : V.cell? ⟨W.heap.size, 0, none⟩ = some (.slice a' ((walkL l 0).filterMap dueOf).length c') := h5.cell rfl
    clear hown hle hcw hK hch hb2 hb3 hkp hsz h5
    gi_wp2
    refine ⟨by simp, .inl ⟨_, _, rfl, run_takeDeferred HK.out, ?_⟩⟩
    have hk : Chg [w0.heap.size] V (V.putObj w0.heap.size (.deferred none)) := (Chg.refl _ V).putObj HK.out (.inl (by simp)) _
    have hz := HSZ.out
    refine ⟨_, results_tmp rfl _ _ _, ?_⟩
    exact ⟨_, rfl, OwnD.mono (OwnD.keep HOWN.out hk (by simp)) (by omega), HCW.out.into hk (by simp; omega)⟩
  case hstop => exact fun c pre V hSp h hK => h.elim
theorem szDue : (Tryd.prog.info? 28).map (·.size) = some 2 := by kernel_rfl
theorem infoInt : (Tryd.prog.info? 3).map (fun i => (i.zero, i.size, i.bytes)) = some (some (.int .i64 0), 1, 8) := by kernel_rfl
def intC (xs : List Int) : List Value := xs.map fun x => .int .i64 x
def OwnI (w : World) (B : Nat) (v : Value) (xs : List Int) : Prop := w.ownsRow B 3 1 v xs.length (intC xs)
theorem own_keep {w w' : World} {B s n : Nat} {T : TypeId} {v : Value} {xs : List Value} {L : List Nat} (h : w.ownsRow B T s v n xs) (k : Chg L w w') (hn : ∀ y ∈ L, y < B) : w'.ownsRow B T s v n xs := by
  obtain ⟨h1, h2⟩ := h
  refine ⟨h1, ?_⟩
  rcases h2 with h2 | ⟨g, cap, cur, rfl, hB, hg, h3⟩
  · exact .inl h2
  · exact .inr ⟨g, cap, cur, rfl, hB, k.heap hg (fun hin => by have := hn g hin; omega), h3⟩
theorem own_mono {w : World} {B B' s n : Nat} {T : TypeId} {v : Value} {xs : List Value} (h : w.ownsRow B T s v n xs) (hb : B' ≤ B) : w.ownsRow B' T s v n xs := by
  obtain ⟨h1, h2⟩ := h
  refine ⟨h1, ?_⟩
  rcases h2 with h2 | ⟨g, cap, cur, rfl, hB, hg, h3⟩
  · exact .inl h2
  · exact .inr ⟨g, cap, cur, rfl, by omega, hg, h3⟩
theorem own_open {w : World} {B s n : Nat} {T : TypeId} {v : Value} {xs : List Value} (h : w.ownsRow B T s v n xs) : ∃ a c, v = .slice a n c := by
  obtain ⟨h1, h2⟩ := h
  rcases h2 with ⟨rfl, h2⟩ | ⟨g, cap, cur, rfl, hB, hg, h3⟩
  · subst h2; exact ⟨_, _, rfl⟩
  · exact ⟨_, _, rfl⟩
theorem OwnI.snoc {w : World} {B : Nat} {v : Value} {xs : List Int} {x : Int} (h : w.ownsRow B 3 1 v (xs.length + 1) (intC xs ++ [.int .i64 x])) : OwnI w B v (xs ++ [x]) := by
  unfold OwnI intC
  rw [List.length_append, List.map_append]
  simpa [intC] using h
def atD (t : Int) (d : Du) : Option Int := if d.at_ = t then some d.task else none
def atL (l : List Du) (t : Int) : List Int := l.filterMap (atD t)
theorem atL_snoc {l : List Du} {j : Nat} {a n : Int} (t : Int) (h : l[j]? = some ⟨a, n⟩) : atL (l.take (j + 1)) t = if a = t then atL (l.take j) t ++ [n] else atL (l.take j) t := by
  have hj := List.getElem?_eq_some_iff.1 h
  rw [List.take_succ_eq_append_getElem hj.1, hj.2]
  unfold atL
  rw [List.filterMap_append]
  by_cases c : a = t
  · simp [atD, c]
  · simp [atD, c]
theorem asksL_len (l : List Ac) : (asksL l).length ≤ l.length := by
  have := List.length_filterMap_le dueOf (walkL l 0)
  rwa [walkL_len] at this
set_option maxHeartbeats 2000000 in
theorem At_any (va : Option Addr) (lc : Nat) (l : List Ac) (t : Int) (W : World) (hr : ReadsA W (.slice va l.length lc) l) (hlen : l.length ≤ 65536) :
    Calls Tryd.prog 16 #[.slice va l.length lc, .int .i64 t] W fun e W' => ∃ v, e = .returned v ∧ OwnI W' W.heap.size v (atL (asksL l) t) ∧ Chg [] W W' := by
  have HAS := Lib.hid (Asks_any va lc l W hr hlen)
  have hal := asksL_len l
  obtain ⟨ds, hds⟩ : ∃ ds, asksL l = ds := ⟨_, rfl⟩
  rw [hds] at HAS hal
  rw [hds]
  have HAL : Hid (ds.length ≤ 65536) := Lib.hid (by omega)
  obtain ⟨i0, hi, hz0, hz1, hz2⟩ := info_parts infoInt
  clear hr hlen hal hds
  go_enter Tryd.func16, Tryd.ntmps16
  go_wp2_with (go_at_call 14; refine HAS.out.mono ?_; rintro e w1 ⟨v, rfl, hown, hcg1⟩; obtain ⟨da, dc, rfl⟩ := own_open hown)
  have hrd := Reads.of_own hown (by decide)
  obtain ⟨b1, o1, hx1, hc1, -⟩ := reads_index (P := Tryd.prog) Tryd.underlying24 szDue hrd
  have HX1 := Lib.hid hx1
  have HC1 := Lib.hid hc1
  have HCG := Lib.hid hcg1
  clear hrd hown hx1 hc1 hcg1
  go_loopw [5, 11] (fun o i wr => ∃ (j : Nat) (a : Option Addr) (c : Nat), j ≤ ds.length ∧ i = .int .i64 j ∧ o = .slice a (atL (ds.take j) t).length c ∧ Hid (OwnI wr w1.heap.size (.slice a (atL (ds.take j) t).length c) (atL (ds.take j) t)) ∧ Hid (Chg [] w1 wr)) (fun _ i _ => ds.length - (intOf i).toNat)
  case atStart => exact ⟨0, none, 0, Nat.zero_le _, rfl, rfl, Lib.hid (World.ownsRow_nil ..), Lib.hid (Chg.refl _ _)⟩
  case round =>
    obtain ⟨j, a, c, hj, rfl, rfl, HO, HJ⟩ := hrel
    by_cases hlt : j < ds.length
    · have HLT := Lib.hid hlt
      have g1 := HX1.out j hlt
      obtain ⟨⟨k, n⟩, htk⟩ : ∃ t, ds[j]? = some t := ⟨_, List.getElem?_eq_getElem hlt⟩
      have q0 := HJ.out.keep (HC1.out (j * 2 + 0) _ (by rw [flatMap_get Du.cells 2 (fun _ => rfl) ds j 0 (by decide) _ htk]; rfl)) (by simp)
      have q1 := HJ.out.keep (HC1.out (j * 2 + 1) _ (by rw [flatMap_get Du.cells 2 (fun _ => rfl) ds j 1 (by decide) _ htk]; rfl)) (by simp)
      rw [Nat.add_zero] at q0
      rw [← Nat.add_assoc] at q1
      have HSN := Lib.hid (atL_snoc t htk)
      have hll : (atL (ds.take j) t).length ≤ 65536 := by
        have h1 := List.length_filterMap_le (atD t) (ds.take j)
        have h2 := HAL.out
        unfold atL
        rw [List.length_take] at h1; omega
      have k8 : IntKind.i64.wrap ((j : Int) + 1) = (j : Int) + 1 := by rw [IntKind.wrap_i64]; have := HAL.out; omega
      obtain ⟨xs, hxs⟩ : ∃ xs, atL (ds.take j) t = xs := ⟨_, rfl⟩
      rw [hxs] at HO HSN hll
      rw [hxs]
      have HLL := Lib.hid hll
      clear htk hj hlt hll hxs
      by_cases c1 : k = t
      · subst c1
        rw [if_pos rfl] at HSN
        have HOA : Hid ((((wr.alloc (.cells #[.int .i64 k, .int .i64 n] 28))).alloc (.cells #[.int .i64 n] 3)).ownsRow w1.heap.size 3 1 (.slice a xs.length c) xs.length (intC xs)) := Lib.hid (own_keep HO.out (((Chg.refl [] _).alloc _).alloc _) (by simp))
        go_wp2_with (at_builtin; refine wpList_append_own _ rfl _ _ 26 rfl w1.heap.size 3 i0 (.int .i64 0) 1 8 Tryd.underlying26 hi hz0 hz1 hz2 rfl (by decide) _ _ _ rfl HOA.out ⟨wr.heap.size + 1, 0, none⟩ 1 1 [.int .i64 n] rfl rfl ?c1 ?c2 ?c3 ?c4 ?c5 ?_)
        case c2 => simp [Value.oneCell']
        case c3 => have := HLL.out; unfold maxLen; omega
        case c4 => have := HLL.out; omega
        case c5 => have := HJ.out.size; simp; omega
        intro v' w2 hown' hgrow _
        have HOW := Lib.hid (OwnI.snoc hown')
        have HGR : Hid (Chg [] w1 w2) := Lib.hid (((HJ.out.alloc _).alloc _).grown hgrow (fun q hq => .inr (World.ownsRow.lt HOA.out q hq).1))
        obtain ⟨a2, c2, rfl⟩ := own_open hown'
        clear hown' hgrow
        go_wp2
        have hltj := HLT.out
        go_roundw
        case rel => exact ⟨j + 1, a2, c2, by omega, by go_num, by rw [HSN.out]; simp, Lib.hid (by rw [HSN.out]; simpa using HOW.out), HGR⟩
        case measure => simp [intOf]; omega
      · rw [if_neg c1] at HSN
        have c1' : (k == t) = false := by simpa using c1
        clear c1
        go_wp2
        have hltj := HLT.out
        go_roundw
        case rel => exact ⟨j + 1, a, c, by omega, by go_num, by rw [HSN.out], Lib.hid (by rw [HSN.out]; exact own_keep HO.out ((Chg.refl [] _).alloc _) (by simp)), Lib.hid (HJ.out.alloc _)⟩
        case measure => simp [intOf]; omega
    · obtain rfl : ds.length = j := by omega
      clear hlt hj
      rw [List.take_length] at HO
      rw [List.take_length]
      go_wp2
      go_ret
      exact ⟨_, rfl, own_mono HO.out HCG.out.size, HCG.out.trans HJ.out⟩
end Go.Proofs.YtldbaommeflooaaDoor.scr
