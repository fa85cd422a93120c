/- Scripts: the acts of a text: script.Parse walked. -/
import Derived.Test.YtldbaommeflooaaDoorScrE
namespace Go.Proofs.YtldbaommeflooaaDoor.scr
open Go Go.RowKit Go.Proofs.YtldbaommeflooaaDoor.kit Go.Proofs.YtldbaommeflooaaDoor.word Go.Shelf
set_option linter.unusedVariables false
set_option linter.unusedSimpArgs false
set_option maxRecDepth 20000
attribute [local go_sem] Oper.semAt_some
theorem results_cell3 {P : Program} {fn : Func} {p q r : Tmp} {tp tq tr : TypeId} (h : fn.results = #[.cell p tp, .cell q tq, .cell r tr]) (tmps : Array Value) (w : World) (g1 g2 g3 : Nat) (v1 v2 v3 : Value)
    (hp : tmps.getD p undef = .pointer (some ⟨g1, 0, none⟩)) (hq : tmps.getD q undef = .pointer (some ⟨g2, 0, none⟩)) (hr : tmps.getD r undef = .pointer (some ⟨g3, 0, none⟩))
    (a1 : (isAgg tp).run P w = .ok false w) (a2 : (isAgg tq).run P w = .ok false w) (a3 : (isAgg tr).run P w = .ok false w)
    (c1 : w.cell? ⟨g1, 0, none⟩ = some v1) (c2 : w.cell? ⟨g2, 0, none⟩ = some v2) (c3 : w.cell? ⟨g3, 0, none⟩ = some v3) :
    (results fn tmps).run P w = .ok (.tuple #[v1, v2, v3]) w := by
  have hp' : tmps[p]?.getD undef = .pointer (some ⟨g1, 0, none⟩) := by simpa using hp
  have hq' : tmps[q]?.getD undef = .pointer (some ⟨g2, 0, none⟩) := by simpa using hq
  have hr' : tmps[r]?.getD undef = .pointer (some ⟨g3, 0, none⟩) := by simpa using hr
  simp [results, h, hp', hq', hr', asAddr, loadVar, a1, a2, a3, c1, c2, c3, go_sem]
theorem agg22 (w : World) : (isAgg 22).run Tryd.prog w = .ok false w := run_isAgg_plain Tryd.underlying22 rfl w
theorem agg3 (w : World) : (isAgg 3).run Tryd.prog w = .ok false w := run_isAgg_plain Tryd.underlying3 rfl w
theorem agg37 (w : World) : (isAgg 37).run Tryd.prog w = .ok false w := run_isAgg_plain Tryd.underlying37 rfl w
set_option maxHeartbeats 4000000 in
theorem Parse_big (s : List UInt8) (hs : 65536 < s.length) (W : World) :
    Calls Tryd.prog 19 #[strV s] W fun e W' => e = .returned (.tuple #[.slice none 0 0, .int .i64 0, .int .i64 6]) ∧ Chg [] W W' := by
  have m1 : (65536 : Int) < (s.length : Int) := by omega
  clear hs
  go_enter Tryd.func19, Tryd.ntmps19
  go_wp2_with fail
  refine bodyPost_ret (results_cell3 rfl _ _ W.heap.size (W.heap.size + 1) (W.heap.size + 1 + 1) (.slice none 0 0) (.int .i64 0) (.int .i64 6) rfl rfl rfl (agg22 _) (agg3 _) (agg37 _) ?_ ?_ ?_) rfl ?_
  · exact (((Blk.new W _ _).alloc _).alloc _).cell rfl
  · have := ((Blk.new (W.alloc (.cells #[.slice none 0 0] 22)) #[.int .i64 0] 3).alloc (.cells #[.int .i64 6] 37)).cell (o := 0) rfl
    rwa [World.size_alloc] at this
  · have := (Blk.new ((W.alloc (.cells #[.slice none 0 0] 22)).alloc (.cells #[.int .i64 0] 3)) #[.int .i64 6] 37).cell (o := 0) rfl
    rwa [World.size_alloc, World.size_alloc] at this
  · exact ⟨rfl, (((Chg.refl [] W).alloc _).alloc _).alloc _⟩
theorem OwnA.keep {w w' : World} {B : Nat} {v : Value} {l : List Ac} {L : List Nat} (h : OwnA w B v l) (k : Chg L w w') (hn : ∀ y ∈ L, y < B) : OwnA w' B v l := by
  obtain ⟨h1, h2⟩ := h
  refine ⟨h1, ?_⟩
  rcases h2 with h2 | ⟨g, cap, cur, rfl, hB, hg, h3⟩
  · exact .inl h2
  · exact .inr ⟨g, cap, cur, rfl, hB, k.heap hg (fun hin => by have := hn g hin; omega), h3⟩
theorem OwnA.mono {w : World} {B B' : Nat} {v : Value} {l : List Ac} (h : OwnA w B v l) (hb : B' ≤ B) : OwnA w B' v l := by
  obtain ⟨h1, h2⟩ := h
  refine ⟨h1, ?_⟩
  rcases h2 with h2 | ⟨g, cap, cur, rfl, hB, hg, h3⟩
  · exact .inl h2
  · exact .inr ⟨g, cap, cur, rfl, by omega, hg, h3⟩
/-- between two rounds -/
def PI (G D : Nat) (W : World) (pre : List (List UInt8)) (V : World) : Prop := ∃ acc v, parseP pre = .ok acc ∧ Blk V (G + 1 + 1 + 1) #[v] 22 ∧ OwnA V (D + 2) v acc ∧
  (Blk V G #[.slice none 0 0] 22 ∧ Blk V (G + 1) #[.int .i64 0] 3 ∧ Blk V (G + 1 + 1) #[.int .i64 0] 37) ∧ Chg [] W V
/-- a round has left -/
def PX (G : Nat) (W : World) (c : Code) (pre : List (List UInt8)) (V : World) : Prop := c = .ret ∧ ∃ k e, parseP pre = .error (k, e) ∧
  (Blk V G #[.slice none 0 0] 22 ∧ Blk V (G + 1) #[.int .i64 k] 3 ∧ Blk V (G + 1 + 1) #[.int .i64 e] 37) ∧ Chg [] W V
theorem PI.keep {G D : Nat} {W A B : World} {pre : List (List UInt8)} {L : List Nat} (h : PI G D W pre A) (k : Chg L A B) (hGD : G + 4 < D) (hL : ∀ y ∈ L, W.heap.size ≤ y ∧ G + 3 < y ∧ y < D + 2) : PI G D W pre B := by
  obtain ⟨acc, v, h1, h2, h3, ⟨h4, h5, h6⟩, h7⟩ := h
  refine ⟨acc, v, h1, h2.keep k (fun hn => ?_), h3.keep k (fun y hy => (hL y hy).2.2), ⟨h4.keep k (fun hn => ?_), h5.keep k (fun hn => ?_), h6.keep k (fun hn => ?_)⟩, h7.into k (fun y hy => .inr (hL y hy).1)⟩
  all_goals (have := hL _ hn; omega)
theorem PX.keep {G : Nat} {W A B : World} {c : Code} {pre : List (List UInt8)} {L : List Nat} (h : PX G W c pre A) (k : Chg L A B) (hL : ∀ y ∈ L, W.heap.size ≤ y ∧ G + 3 < y) : PX G W c pre B := by
  obtain ⟨h0, a, e, h1, ⟨h4, h5, h6⟩, h7⟩ := h
  refine ⟨h0, a, e, h1, ⟨h4.keep k (fun hn => ?_), h5.keep k (fun hn => ?_), h6.keep k (fun hn => ?_)⟩, h7.into k (fun y hy => .inr (hL y hy).1)⟩
  all_goals (have := hL _ hn; omega)
theorem px_end {G D : Nat} {W V V1 : World} {pre : List (List UInt8)} {r : Loop} {a : Act} {k e : Int} {x2 x3 x4 : Value} (hcw : Chg [] W V1) (hD : V1.heap[D]? = some (.deferred (some []))) (hl : V1.heap[D + 1]? = some (.loop r))
    (hGD : G = W.heap.size ∧ D = G + 5) (hp : parseP pre = .error (k, e))
    (h2 : Blk V1 G #[x2] 22) (h3 : Blk V1 (G + 1) #[x3] 3) (h4 : Blk V1 (G + 1 + 1) #[x4] 37) {Kp : World → World → Prop} {I : List (List UInt8) → World → Prop} :
    chgPost D r Kp I (PX G W) pre V .ret a (((V1.setCell ⟨G, 0, none⟩ (.slice none 0 0)).setCell ⟨G + 1, 0, none⟩ (.int .i64 k)).setCell ⟨G + 1 + 1, 0, none⟩ (.int .i64 e)).drew := by
  have hk : Chg [G, G + 1, G + 1 + 1] V1 (((V1.setCell ⟨G, 0, none⟩ (.slice none 0 0)).setCell ⟨G + 1, 0, none⟩ (.int .i64 k)).setCell ⟨G + 1 + 1, 0, none⟩ (.int .i64 e)).drew := ((((Chg.refl _ V1).setCell (.inl (by simp)) _).setCell (.inl (by simp)) _).setCell (.inl (by simp)) _).drew
  exact ⟨⟨hk.heap hD (by simp; omega), hk.heap hl (by simp; omega)⟩, rfl, k, e, hp,
    ⟨((h2.set 0 _).set_ne (b' := G + 1) (by omega) _ _ _).set_ne (b' := G + 1 + 1) (by omega) _ _ _, ((h3.set_ne (b' := G) (by omega) _ _ _).set 0 _).set_ne (b' := G + 1 + 1) (by omega) _ _ _, ((h4.set_ne (b' := G) (by omega) _ _ _).set_ne (b' := G + 1) (by omega) _ _ _).set 0 _⟩, hcw.into hk (by simp; omega)⟩
theorem two_cells (w : World) (x y : Value) (T : TypeId) : ∀ (j : Nat) u, [x, y][j]? = some u → (w.alloc (.cells #[x, y] T)).cell? ((⟨w.heap.size, 0, none⟩ : Addr).add j) = some u := fun j u hj => by
  rw [add_plain, Nat.zero_add]
  exact (Blk.new w #[x, y] T).cell (by simpa using hj)
theorem grown_chg {w w' : World} (o1 o2 : Obj) {v : Value} (h : ((w.alloc o1).alloc o2).grownBy w' v.ownBlock) : Chg v.ownBlock.toList w w' :=
  (((Chg.refl _ w).alloc o1).alloc o2).grown h (fun k hk => .inl (Option.mem_toList.2 hk))
theorem readL_one {s : List UInt8} {a : Ac} (h : readL s = some a) : oneB a = true := by
  unfold readL at h
  split at h
  · cases h
  · split at h
    · rename_i hc
      cases h
      simp only [Bool.and_eq_true] at hc
      exact hc.1.2
    · cases h
theorem oneB_ok {a : Ac} (h : oneB a = true) : a.ok := by
  have h1 := oneB_bd h
  have h2 : a.k = 1 ∨ a.k = 2 := by simp [oneB] at h; omega
  unfold Ac.ok i64B
  omega
theorem foldP_one : ∀ (pre : List (List UInt8)) (a acc : List Ac), pre.foldlM stepP a = .ok acc → (∀ x ∈ a, oneB x = true) → ∀ x ∈ acc, oneB x = true
  | [], a, acc, h, ha => by cases h; exact ha
  | l :: pre, a, acc, h, ha => by
    rw [List.foldlM_cons] at h
    cases hs : stepP a l with
    | error e => rw [hs] at h; cases h
    | ok b =>
      rw [hs] at h
      refine foldP_one pre b acc h ?_
      unfold stepP at hs
      split at hs
      · split at hs
        · rename_i y hy
          cases hs
          intro x hx
          rcases List.mem_append.1 hx with hx | hx
          · exact ha x hx
          · simp at hx; subst hx; exact readL_one hy
        · cases hs
      · cases hs
theorem parseP_one {ls : List (List UInt8)} {acc : List Ac} (h : parseP ls = .ok acc) : ∀ x ∈ acc, oneB x = true := foldP_one ls [] acc h (by simp)
set_option maxHeartbeats 1000000 in
theorem Parse_small (s : List UInt8) (hs : s.length ≤ 65536) (W : World) (hT : TabS W) :
    Calls Tryd.prog 19 #[strV s] W fun e W' => ∃ v, e = .returned (.tuple #[v, .int .i64 (parseR s).2.1, .int .i64 (parseR s).2.2]) ∧ OwnA W' W.heap.size v (parseR s).1 ∧ Chg [] W W' := by
  refine (callsIn_wide (n := 5)).1 ?_
  refine callsIn_of_wp_marks Tryd.func19 rfl trivial ?_ rfl
  simp only [Tryd.ntmps19, List.size_toArray, List.length_cons, List.length_nil, Nat.reduceAdd, Nat.reduceSub, Array.replicate_succ, Array.replicate_zero, List.push_toArray, List.append_toArray, List.nil_append, List.cons_append]
  have m1 : ¬ (65536 : Int) < (s.length : Int) := by omega
  have HS := Lib.hid hs
  have HT := Lib.hid hT
  clear hs hT
  gi_wp2_with (refine ⟨trivial, ?_⟩; gi_at_call 31; refine (callsIn_wide.2 (Lines_any s _)).mono ?_; rintro e w' ⟨rfl, rfl⟩)
  obtain ⟨w0, hw0⟩ : ∃ w0, ((((W.alloc (.cells #[.slice none 0 0] 22)).alloc (.cells #[.int .i64 0] 3)).alloc (.cells #[.int .i64 0] 37)).alloc (.cells #[.slice none 0 0] 22)).alloc (.cells #[strV s] 9) = w0 := ⟨_, rfl⟩
  have hsz : w0.heap.size = W.heap.size + 5 := by rw [← hw0]; simp
  have hG : W.heap.size + 1 + 1 + 1 + 1 < w0.heap.size := by rw [hsz]; omega
  have hch : Chg [] W w0 := by rw [← hw0]; exact (((((Chg.refl [] W).alloc _).alloc _).alloc _).alloc _).alloc _
  have hb2 : Blk w0 W.heap.size #[.slice none 0 0] 22 := by rw [← hw0]; exact ((((Blk.new W _ _).alloc _).alloc _).alloc _).alloc _
  have hb3 : Blk w0 (W.heap.size + 1) #[.int .i64 0] 3 := by
    have := (((Blk.new (W.alloc (.cells #[.slice none 0 0] 22)) #[.int .i64 0] 3).alloc (.cells #[.int .i64 0] 37)).alloc (.cells #[.slice none 0 0] 22)).alloc (.cells #[strV s] 9)
    rw [hw0] at this
    simpa using this
  have hb4 : Blk w0 (W.heap.size + 1 + 1) #[.int .i64 0] 37 := by
    have := ((Blk.new ((W.alloc (.cells #[.slice none 0 0] 22)).alloc (.cells #[.int .i64 0] 3)) #[.int .i64 0] 37).alloc (.cells #[.slice none 0 0] 22)).alloc (.cells #[strV s] 9)
    rw [hw0] at this
    simpa using this
  have hb5 : Blk w0 (W.heap.size + 1 + 1 + 1) #[.slice none 0 0] 22 := by
    have := (Blk.new (((W.alloc (.cells #[.slice none 0 0] 22)).alloc (.cells #[.int .i64 0] 3)).alloc (.cells #[.int .i64 0] 37)) #[.slice none 0 0] 22).alloc (.cells #[strV s] 9)
    rw [hw0] at this
    simpa using this
  have hbs : Blk w0 (W.heap.size + 1 + 1 + 1 + 1) #[strV s] 9 := by
    have := Blk.new ((((W.alloc (.cells #[.slice none 0 0] 22)).alloc (.cells #[.int .i64 0] 3)).alloc (.cells #[.int .i64 0] 37)).alloc (.cells #[.slice none 0 0] 22)) #[strV s] 9
    rw [hw0] at this
    simpa using this
  rw [hw0]
  clear hw0
  refine wpIn_rangeFunc_chg (α := List UInt8) rfl (by omega) (gf := 42) (lb := #[.pointer (some ⟨W.heap.size + 1 + 1 + 1 + 1, 0, none⟩)]) rfl trivial (enters_of Tryd.func42 (by kernel_rfl) rfl)
    (Lines1_ok 4 (by omega) (W.heap.size + 1 + 1 + 1 + 1) s (by have := HS.out; omega) w0 hbs) (fun b hb => by simp at hb; omega)
    (fun A B o' r hl hk => by unfold KpL at hk ⊢; rw [← hk]; exact World.putObj_heap_other (by omega)) (fun _ => rfl)
    (PI W.heap.size w0.heap.size W) (PX W.heap.size W) ?hI ?hIx ?h0 ?hround ?hdone ?hstop
  case hI => exact fun pre A B r h _ k => h.keep k (by omega) (by simp; omega)
  case hIx => exact fun c pre A B r h _ k => h.keep k (by simp; omega)
  case h0 => exact fun V k => ⟨[], .slice none 0 0, rfl, hb5.keep k (by simp), World.ownsRow_nil .., ⟨hb2.keep k (by simp), hb3.keep k (by simp), hb4.keep k (by simp)⟩, hch.trans k⟩
  case hround =>
    rintro pre x V r hPI hR hD hl
    gi_wp2
    refine ⟨hl, ?_⟩
    obtain ⟨r', hr'⟩ : ∃ r', ({ r with state := .busy } : Loop) = r' := ⟨_, rfl⟩
    rw [hr']
    obtain ⟨V1, hV1⟩ : ∃ V1, V.putObj (w0.heap.size + 1) (.loop r') = V1 := ⟨_, rfl⟩
    rw [hV1]
    have hlt : w0.heap.size + 1 < V.heap.size := (Array.getElem?_eq_some_iff.1 hl).1
    have hPI1 : PI W.heap.size w0.heap.size W pre V1 := by rw [← hV1]; exact hPI.keep ((Chg.refl [w0.heap.size + 1] V).putObj hl (.inl (by simp)) _) (by omega) (by simp; omega)
    have hl1 : V1.heap[w0.heap.size + 1]? = some (.loop r') := by rw [← hV1]; exact World.putObj_heap_same hlt
    have hD1 : V1.heap[w0.heap.size]? = some (.deferred (some [])) := by rw [← hV1]; exact (World.putObj_heap_other (by omega)).trans hD
    have hKV : V1.heap[W.heap.size + 1 + 1 + 1 + 1]? = V.heap[W.heap.size + 1 + 1 + 1 + 1]? := by rw [← hV1]; exact World.putObj_heap_other (by omega)
    have hlt1 : w0.heap.size + 1 < V1.heap.size := (Array.getElem?_eq_some_iff.1 hl1).1
    clear hPI hl hD hV1 hlt hr'
    obtain ⟨acc, v, hp, h5, hown, ⟨h2, h3, h4⟩, hcw⟩ := hPI1
    obtain ⟨va, vc, rfl, hle⟩ := reads_slice (Reads.of_own hown (by decide))
    obtain ⟨hls, hxs⟩ := linesL_len s.length s (Nat.le_refl _)
    have hmem : x ∈ linesL s := by obtain ⟨t, ht⟩ := hR; rw [← ht]; simp
    have hxl := hxs x hmem
    have hal : acc.length < 65536 := by
      have h1 := hR.length_le
      have h2 := parseP_len pre acc hp
      have h3 := HS.out
      simp at h1; omega
    have hx16 : x.length ≤ 65536 := by have := HS.out; omega
    have hstep : parseP (pre ++ [x]) = stepP acc x := parseP_snoc pre x hp
    have c5 : V1.cell? ⟨W.heap.size + 1 + 1 + 1, 0, none⟩ = some (.slice va acc.length vc) := h5.cell rfl
    have f5 := h5.free 0
    have c2 : V1.cell? ⟨W.heap.size, 0, none⟩ = some (.slice none 0 0) := h2.cell rfl
    have f2 := h2.free 0
    have c3 : V1.cell? ⟨W.heap.size + 1, 0, none⟩ = some (.int .i64 0) := h3.cell rfl
    have f3 := h3.free 0
    have c4 : V1.cell? ⟨W.heap.size + 1 + 1, 0, none⟩ = some (.int .i64 0) := h4.cell rfl
    have f4 := h4.free 0
    have k8 : IntKind.i64.wrap ((acc.length : Int) + 1) = (acc.length : Int) + 1 := by rw [IntKind.wrap_i64]; omega
    have hmx : Tryd.prog.follows .mixedOrders = true := by kernel_rfl
    have hcs : ∀ w, Calls Tryd.prog 32 #[strV x, .string ⟨#[10]⟩] w fun e w' => e = .returned (.tuple #[strV (Lib.trimSuffix x [10]), .bool (Lib.hasSuffix x [10])]) ∧ w = w' := fun w => by
      have := Tryd.strings_CutSuffix ⟨x.toArray⟩ ⟨#[10]⟩ w (by simp [ByteArray.size]; omega)
      simp only [eq_comm (b := w)] at this
      exact this
    have HLS := Lib.hid (⟨hls, hxs, hmem, hxl, hal, hx16⟩ : _ ∧ _ ∧ _ ∧ _ ∧ _ ∧ _)
    have HSTEP := Lib.hid hstep
    have HOWN := Lib.hid hown
    have HLE := Lib.hid hle
    have HCW := Lib.hid hcw
    have HD := Lib.hid (⟨hD1, hl1, hKV, hlt1⟩ : _ ∧ _ ∧ _ ∧ _)
    have HSZ := Lib.hid hsz
    clear hls hxs hmem hxl hal hx16 hstep hown hle hcw hD1 hl1 hKV hlt1 hR hch hb2 hb3 hb4 hb5 hbs hG hsz
    cases hsf : Lib.hasSuffix x [10]
    · rw [hsf] at hcs
      gi_wp2_with (refine ⟨trivial, ?_⟩; gi_at_call 32; refine (CallsIn.inRound _ (callsIn_wide.2 (hcs _))).mono ?_; rintro e w' ⟨rfl, rfl⟩)
      gi_region_o
      all_goals gi_wp2
      all_goals
        try simp only [Exit.inBlock, Exit.then]
        exact px_end HCW.out HD.out.1 HD.out.2.1 (by have := HSZ.out; omega) (by rw [HSTEP.out]; unfold stepP; rw [hsf]; rfl) h2 h3 h4
    · rw [hsf] at hcs
      have hrd : ∀ w, TabS w → Calls Tryd.prog 33 #[strV (Lib.trimSuffix x [10])] w fun e w' => e = .returned (readV (readL (Lib.trimSuffix x [10]))) ∧ Chg [] w w' := fun w hw =>
        read_any _ (by have h1 := HLS.out.2.2.2.2.2; unfold Lib.trimSuffix; split <;> simp <;> omega) w hw
      cases hrl : readL (Lib.trimSuffix x [10]) with
      | none =>
        rw [hrl] at hrd
        dsimp only [readV] at hrd
        gi_wp2_with (first | (refine ⟨trivial, ?_⟩; gi_at_call 32; refine (CallsIn.inRound _ (callsIn_wide.2 (hcs _))).mono ?_; rintro e w' ⟨rfl, rfl⟩) | (refine ⟨trivial, ?_⟩; gi_at_call 33; refine (CallsIn.inRound _ (callsIn_wide.2 (hrd _ (HT.out.keep HCW.out)))).mono ?_; rintro e w9 ⟨rfl, hcg⟩; have HCG := Lib.hid hcg; have H2 := Lib.hid (h2.keep hcg (by simp)); have H3 := Lib.hid (h3.keep hcg (by simp)); have H4 := Lib.hid (h4.keep hcg (by simp)); have H5 := Lib.hid (h5.keep hcg (by simp)); have HOWN := Lib.hid (OwnA.keep HOWN.out hcg (by simp)); clear hcg h5 c2 c3 c4 c5 f2 f3 f4 f5; have c5a : (w9.alloc (.cells #[.int .i64 0, .int .i64 0] 43)).cell? ⟨W.heap.size + 1 + 1 + 1, 0, none⟩ = some (.slice va acc.length vc) := (H5.out.alloc _).cell rfl; have f5a : (w9.alloc (.cells #[.int .i64 0, .int .i64 0] 43)).frozen? ⟨W.heap.size + 1 + 1 + 1, 0, none⟩ = false := (H5.out.alloc _).free 0; have c2a : (w9.alloc (.cells #[.int .i64 0, .int .i64 0] 43)).cell? ⟨W.heap.size, 0, none⟩ = some (.slice none 0 0) := (H2.out.alloc _).cell rfl; have f2a : (w9.alloc (.cells #[.int .i64 0, .int .i64 0] 43)).frozen? ⟨W.heap.size, 0, none⟩ = false := (H2.out.alloc _).free 0; have c3a : (w9.alloc (.cells #[.int .i64 0, .int .i64 0] 43)).cell? ⟨W.heap.size + 1, 0, none⟩ = some (.int .i64 0) := (H3.out.alloc _).cell rfl; have f3a : (w9.alloc (.cells #[.int .i64 0, .int .i64 0] 43)).frozen? ⟨W.heap.size + 1, 0, none⟩ = false := (H3.out.alloc _).free 0; have c4a : (w9.alloc (.cells #[.int .i64 0, .int .i64 0] 43)).cell? ⟨W.heap.size + 1 + 1, 0, none⟩ = some (.int .i64 0) := (H4.out.alloc _).cell rfl; have f4a : (w9.alloc (.cells #[.int .i64 0, .int .i64 0] 43)).frozen? ⟨W.heap.size + 1 + 1, 0, none⟩ = false := (H4.out.alloc _).free 0))
        gi_region_o
        all_goals gi_wp2
        all_goals
          try simp only [Exit.inBlock, Exit.then]
          exact px_end (HCW.out.trans (HCG.out.alloc _)) ((HCG.out.alloc _).heap HD.out.1 (by simp)) ((HCG.out.alloc _).heap HD.out.2.1 (by simp)) (by have := HSZ.out; omega) (by rw [HSTEP.out]; unfold stepP; rw [hsf, hrl]; rfl) (H2.out.alloc _) (H3.out.alloc _) (H4.out.alloc _)
      | some a =>
        obtain ⟨ka, na⟩ := a
        rw [hrl] at hrd
        dsimp only [readV, Ac.val] at hrd
        obtain ⟨i0, hi, hz0, hz1, hz2⟩ := info_parts infoAct
        have hb1 : acc.length + 1 ≤ maxLen := by have := HLS.out.2.2.2.2.1; unfold maxLen; omega
        have hb2 : (acc.length + 1) * 16 ≤ 140737488355328 := by have := HLS.out.2.2.2.2.1; omega
        gi_wp2_with (first | (refine ⟨trivial, ?_⟩; gi_at_call 32; refine (CallsIn.inRound _ (callsIn_wide.2 (hcs _))).mono ?_; rintro e w' ⟨rfl, rfl⟩) | (refine ⟨trivial, ?_⟩; gi_at_call 33; refine (CallsIn.inRound _ (callsIn_wide.2 (hrd _ (HT.out.keep HCW.out)))).mono ?_; rintro e w9 ⟨rfl, hcg⟩; have HCG := Lib.hid hcg; have H2 := Lib.hid (h2.keep hcg (by simp)); have H3 := Lib.hid (h3.keep hcg (by simp)); have H4 := Lib.hid (h4.keep hcg (by simp)); have H5 := Lib.hid (h5.keep hcg (by simp)); have HOWN := Lib.hid (OwnA.keep HOWN.out hcg (by simp)); clear hcg h5 c2 c3 c4 c5 f2 f3 f4 f5; have c5a : (w9.alloc (.cells #[.int .i64 ka, .int .i64 na] 43)).cell? ⟨W.heap.size + 1 + 1 + 1, 0, none⟩ = some (.slice va acc.length vc) := (H5.out.alloc _).cell rfl; have f5a : (w9.alloc (.cells #[.int .i64 ka, .int .i64 na] 43)).frozen? ⟨W.heap.size + 1 + 1 + 1, 0, none⟩ = false := (H5.out.alloc _).free 0; have c2a : (w9.alloc (.cells #[.int .i64 ka, .int .i64 na] 43)).cell? ⟨W.heap.size, 0, none⟩ = some (.slice none 0 0) := (H2.out.alloc _).cell rfl; have f2a : (w9.alloc (.cells #[.int .i64 ka, .int .i64 na] 43)).frozen? ⟨W.heap.size, 0, none⟩ = false := (H2.out.alloc _).free 0; have c3a : (w9.alloc (.cells #[.int .i64 ka, .int .i64 na] 43)).cell? ⟨W.heap.size + 1, 0, none⟩ = some (.int .i64 0) := (H3.out.alloc _).cell rfl; have f3a : (w9.alloc (.cells #[.int .i64 ka, .int .i64 na] 43)).frozen? ⟨W.heap.size + 1, 0, none⟩ = false := (H3.out.alloc _).free 0; have c4a : (w9.alloc (.cells #[.int .i64 ka, .int .i64 na] 43)).cell? ⟨W.heap.size + 1 + 1, 0, none⟩ = some (.int .i64 0) := (H4.out.alloc _).cell rfl; have f4a : (w9.alloc (.cells #[.int .i64 ka, .int .i64 na] 43)).frozen? ⟨W.heap.size + 1 + 1, 0, none⟩ = false := (H4.out.alloc _).free 0; have HOA : ((w9.alloc (.cells #[.int .i64 ka, .int .i64 na] 43)).alloc (.cells #[.int .i64 ka, .int .i64 na] 43)).ownsRow (w0.heap.size + 2) 43 2 (.slice va acc.length vc) acc.length (acc.flatMap Ac.cells) := OwnA.keep HOWN.out (((Chg.refl [] _).alloc _).alloc _) (by simp); have HOL := Lib.hid (fun y hy => (World.ownsRow.lt HOWN.out y hy).1); have hcc := two_cells (w9.alloc (.cells #[.int .i64 ka, .int .i64 na] 43)) (.int .i64 ka) (.int .i64 na) 43; rw [World.size_alloc] at hcc; have hb3 : w0.heap.size + 2 ≤ ((w9.alloc (.cells #[.int .i64 ka, .int .i64 na] 43)).alloc (.cells #[.int .i64 ka, .int .i64 na] 43)).heap.size := by rw [World.size_alloc, World.size_alloc]; have h1 := HD.out.2.2.2; have h2 := HCG.out.size; omega) | (gi_at_builtin; refine wpListIn_append_own_at _ rfl (.tmp 37) (.tmp 39) 22 rfl (w0.heap.size + 2) 43 i0 (.agg #[.int .i64 0, .int .i64 0]) 2 16 Tryd.underlying22 hi hz0 hz1 hz2 rfl (by decide) (.slice va acc.length vc) acc.length (acc.flatMap Ac.cells) rfl HOA ⟨w9.heap.size + 1, 0, none⟩ 1 1 [.int .i64 ka, .int .i64 na] rfl rfl hcc (by simp [Value.oneCell']) hb1 hb2 hb3 ?_; intro v' w' hown' hgrow hnil hblk; obtain ⟨g', cap', rfl⟩ := ownsRow_succ hown'; have hka := grown_chg (w := w9) (.cells #[.int .i64 ka, .int .i64 na] 43) (.cells #[.int .i64 ka, .int .i64 na] 43) hgrow; have HKA := Lib.hid hka; have HON := Lib.hid hown'; have hnb : ∀ q, q < w0.heap.size + 2 → q ∉ (Value.slice va acc.length vc).ownBlock.toList := fun q hq hm => (by have := HOL.out q (Option.mem_toList.1 hm); omega); have HNB := Lib.hid hnb; have h5b := H5.out.keep hka (hnb _ (by have := HSZ.out; omega)); have H5B := Lib.hid h5b; have c5b : w'.cell? ⟨W.heap.size + 1 + 1 + 1, 0, none⟩ = some (.slice va acc.length vc) := h5b.cell rfl; have f5b := h5b.free 0; clear hka hown' hgrow hnil hblk hnb h5b))
        have HKB : Hid (Chg ((W.heap.size + 1 + 1 + 1) :: (Value.slice va acc.length vc).ownBlock.toList) V1 (w'.setCell ⟨W.heap.size + 1 + 1 + 1, 0, none⟩ (.slice (some ⟨g', 0, none⟩) (acc.length + 1) cap'))) :=
          Lib.hid (((Chg.mono HCG.out (by simp)).trans (HKA.out.mono (fun y hy => List.mem_cons_of_mem _ hy))).setCell (.inl (by simp)) _)
        have hnm : ∀ q, q < w0.heap.size + 2 → q ≠ W.heap.size + 1 + 1 + 1 → q ∉ ((W.heap.size + 1 + 1 + 1) :: (Value.slice va acc.length vc).ownBlock.toList) := fun q h1 h2 hm => by
          rcases List.mem_cons.1 hm with h | h
          · exact h2 h
          · exact HNB.out q h1 h
        have hz := HSZ.out
        have hq2 := hnm W.heap.size (by omega) (by omega)
        have hq3 := hnm (W.heap.size + 1) (by omega) (by omega)
        have hq4 := hnm (W.heap.size + 1 + 1) (by omega) (by omega)
        have hqs := hnm (W.heap.size + 1 + 1 + 1 + 1) (by omega) (by omega)
        have hqD := hnm w0.heap.size (by omega) (by omega)
        have hql := hnm (w0.heap.size + 1) (by omega) (by omega)
        refine ⟨⟨HKB.out.heap HD.out.1 hqD, HKB.out.heap HD.out.2.1 hql⟩, ?_, acc ++ [⟨ka, na⟩], .slice (some ⟨g', 0, none⟩) (acc.length + 1) cap', ?_, H5B.out.set 0 _, ?_, ⟨h2.keep HKB.out hq2, h3.keep HKB.out hq3, h4.keep HKB.out hq4⟩, HCW.out.into HKB.out ?_⟩
        · exact (HKB.out.block _ (by have := HD.out.2.2.2; omega) hqs).trans HD.out.2.2.1
        · rw [HSTEP.out]; unfold stepP; rw [hsf, hrl]; rfl
        · refine OwnA.keep (L := [W.heap.size + 1 + 1 + 1]) ?_ ((Chg.refl _ w').setCell (.inl (by simp)) _) (by simp; omega)
          unfold OwnA
          rw [List.length_append, List.flatMap_append]
          simpa [Ac.cells] using HON.out
        · intro y hy
          rcases List.mem_cons.1 hy with h | h
          · exact .inr (by omega)
          · have := HOL.out y (Option.mem_toList.1 h)
            exact .inr (by omega)
  case hdone =>
    rintro xs V rfl ⟨acc, v, hp, h5, hown, ⟨h2, h3, h4⟩, hcw⟩ hK
    obtain ⟨va, vc, rfl, hle⟩ := reads_slice (Reads.of_own hown (by decide))
    have HRA : Hid (ReadsA V (.slice va acc.length vc) acc) := Lib.hid ⟨Reads.of_own hown (by decide), fun a ha => oneB_ok (parseP_one hp a ha)⟩
    have HOWN := Lib.hid hown
    have HCW := Lib.hid hcw
    have HK := Lib.hid hK
    have HSZ := Lib.hid hsz
    have HP := Lib.hid hp
    have c5v : V.cell? ⟨W.heap.size + 1 + 1 + 1, 0, none⟩ = some (.slice va acc.length vc) := h5.cell rfl
    have hmx : Tryd.prog.follows .mixedOrders = true := by kernel_rfl
    clear hown hle hcw hK hp hch hb2 hb3 hb4 hb5 hbs hG hsz
    cases hR : rightA acc
    · have hres : parseR s = ([], 0, 5) := by unfold parseR; rw [if_neg (by have := HS.out; omega), HP.out]; simp only [hR]; rfl
      gi_wp2_with (refine ⟨trivial, ?_⟩; gi_at_call 11; refine (callsIn_wide.2 (Right_any _ _ _ _ HRA.out)).mono ?_; rintro e w9 ⟨rfl, hcg⟩; rw [hR]; have HCG := Lib.hid hcg; have H2 := Lib.hid (h2.keep hcg (by simp)); have H3 := Lib.hid (h3.keep hcg (by simp)); have H4 := Lib.hid (h4.keep hcg (by simp)); have H5 := Lib.hid (h5.keep hcg (by simp)); have HOWN := Lib.hid (OwnA.keep HOWN.out hcg (by simp)); clear hcg; have c5 : w9.cell? ⟨W.heap.size + 1 + 1 + 1, 0, none⟩ = some (.slice va acc.length vc) := H5.out.cell rfl; have c2 : w9.cell? ⟨W.heap.size, 0, none⟩ = some (.slice none 0 0) := H2.out.cell rfl; have f2 := H2.out.free 0; have c3 : w9.cell? ⟨W.heap.size + 1, 0, none⟩ = some (.int .i64 0) := H3.out.cell rfl; have f3 := H3.out.free 0; have c4 : w9.cell? ⟨W.heap.size + 1 + 1, 0, none⟩ = some (.int .i64 0) := H4.out.cell rfl; have f4 := H4.out.free 0)
      have hz := HSZ.out
      have hk : Chg [W.heap.size, W.heap.size + 1, W.heap.size + 1 + 1] w9 (((w9.setCell ⟨W.heap.size, 0, none⟩ (.slice none 0 0)).setCell ⟨W.heap.size + 1, 0, none⟩ (.int .i64 0)).setCell ⟨W.heap.size + 1 + 1, 0, none⟩ (.int .i64 5)) := (((Chg.refl _ w9).setCell (.inl (by simp)) _).setCell (.inl (by simp)) _).setCell (.inl (by simp)) _
      have hK2 := hk.heap (HCG.out.heap HK.out (by simp)) (by simp; omega)
      refine ⟨by simp, .inl ⟨_, _, rfl, run_takeDeferred hK2, ?_⟩⟩
      have hk2 := (Chg.refl [w0.heap.size] _).putObj hK2 (.inl (by simp)) (.deferred none)
      refine ⟨_, results_cell3 rfl _ _ W.heap.size (W.heap.size + 1) (W.heap.size + 1 + 1) (.slice none 0 0) (.int .i64 0) (.int .i64 5) rfl rfl rfl (agg22 _) (agg3 _) (agg37 _) (Blk.cell (Blk.keep (((H2.out.set 0 _).set_ne (b' := W.heap.size + 1) (by omega) _ _ _).set_ne (b' := W.heap.size + 1 + 1) (by omega) _ _ _) hk2 (by simp; omega)) rfl) (Blk.cell (Blk.keep (((H3.out.set_ne (b' := W.heap.size) (by omega) _ _ _).set 0 _).set_ne (b' := W.heap.size + 1 + 1) (by omega) _ _ _) hk2 (by simp; omega)) rfl) (Blk.cell (Blk.keep (((H4.out.set_ne (b' := W.heap.size) (by omega) _ _ _).set_ne (b' := W.heap.size + 1) (by omega) _ _ _).set 0 _) hk2 (by simp; omega)) rfl), ?_⟩
      exact ⟨.slice none 0 0, by rw [hres], by rw [hres]; exact World.ownsRow_nil .., ((HCW.out.trans HCG.out).into hk (by simp; omega)).into hk2 (by simp; omega)⟩
    · have hres : parseR s = (acc, 0, 0) := by unfold parseR; rw [if_neg (by have := HS.out; omega), HP.out]; simp only [hR]; rfl
      gi_wp2_with (refine ⟨trivial, ?_⟩; gi_at_call 11; refine (callsIn_wide.2 (Right_any _ _ _ _ HRA.out)).mono ?_; rintro e w9 ⟨rfl, hcg⟩; rw [hR]; have HCG := Lib.hid hcg; have H2 := Lib.hid (h2.keep hcg (by simp)); have H3 := Lib.hid (h3.keep hcg (by simp)); have H4 := Lib.hid (h4.keep hcg (by simp)); have H5 := Lib.hid (h5.keep hcg (by simp)); have HOWN := Lib.hid (OwnA.keep HOWN.out hcg (by simp)); clear hcg; have c5 : w9.cell? ⟨W.heap.size + 1 + 1 + 1, 0, none⟩ = some (.slice va acc.length vc) := H5.out.cell rfl; have c2 : w9.cell? ⟨W.heap.size, 0, none⟩ = some (.slice none 0 0) := H2.out.cell rfl; have f2 := H2.out.free 0; have c3 : w9.cell? ⟨W.heap.size + 1, 0, none⟩ = some (.int .i64 0) := H3.out.cell rfl; have f3 := H3.out.free 0; have c4 : w9.cell? ⟨W.heap.size + 1 + 1, 0, none⟩ = some (.int .i64 0) := H4.out.cell rfl; have f4 := H4.out.free 0)
      have hz := HSZ.out
      have hk : Chg [W.heap.size, W.heap.size + 1, W.heap.size + 1 + 1] w9 (((w9.setCell ⟨W.heap.size, 0, none⟩ (.slice va acc.length vc)).setCell ⟨W.heap.size + 1, 0, none⟩ (.int .i64 0)).setCell ⟨W.heap.size + 1 + 1, 0, none⟩ (.int .i64 0)) := (((Chg.refl _ w9).setCell (.inl (by simp)) _).setCell (.inl (by simp)) _).setCell (.inl (by simp)) _
      have hK2 := hk.heap (HCG.out.heap HK.out (by simp)) (by simp; omega)
      refine ⟨by simp, .inl ⟨_, _, rfl, run_takeDeferred hK2, ?_⟩⟩
      have hk2 := (Chg.refl [w0.heap.size] _).putObj hK2 (.inl (by simp)) (.deferred none)
      refine ⟨_, results_cell3 rfl _ _ W.heap.size (W.heap.size + 1) (W.heap.size + 1 + 1) (.slice va acc.length vc) (.int .i64 0) (.int .i64 0) rfl rfl rfl (agg22 _) (agg3 _) (agg37 _) (Blk.cell (Blk.keep (((H2.out.set 0 _).set_ne (b' := W.heap.size + 1) (by omega) _ _ _).set_ne (b' := W.heap.size + 1 + 1) (by omega) _ _ _) hk2 (by simp; omega)) rfl) (Blk.cell (Blk.keep (((H3.out.set_ne (b' := W.heap.size) (by omega) _ _ _).set 0 _).set_ne (b' := W.heap.size + 1 + 1) (by omega) _ _ _) hk2 (by simp; omega)) rfl) (Blk.cell (Blk.keep (((H4.out.set_ne (b' := W.heap.size) (by omega) _ _ _).set_ne (b' := W.heap.size + 1) (by omega) _ _ _).set 0 _) hk2 (by simp; omega)) rfl), ?_⟩
      exact ⟨.slice va acc.length vc, by rw [hres], by rw [hres]; exact OwnA.mono (OwnA.keep (OwnA.keep HOWN.out hk (by simp; omega)) hk2 (by simp)) (by omega), ((HCW.out.trans HCG.out).into hk (by simp; omega)).into hk2 (by simp; omega)⟩
  case hstop =>
    rintro c pre V hSp ⟨rfl, k, e, hp, ⟨h2, h3, h4⟩, hcw⟩ hK
    have hpr := parseP_stop hSp hp
    gi_wp2
    refine ⟨by simp, .inl ⟨_, _, rfl, run_takeDeferred hK, ?_⟩⟩
    have hk : Chg [w0.heap.size] V (V.putObj w0.heap.size (.deferred none)) := (Chg.refl _ V).putObj hK (.inl (by simp)) _
    have hres : parseR s = ([], k, e) := by unfold parseR; rw [if_neg (by have := HS.out; omega), hpr]
    refine ⟨_, results_cell3 rfl _ _ W.heap.size (W.heap.size + 1) (W.heap.size + 1 + 1) (.slice none 0 0) (.int .i64 k) (.int .i64 e) rfl rfl rfl (agg22 _) (agg3 _) (agg37 _) ((h2.keep hk (by simp; omega)).cell rfl) ((h3.keep hk (by simp; omega)).cell rfl) ((h4.keep hk (by simp; omega)).cell rfl), ?_⟩
    exact ⟨.slice none 0 0, by rw [hres], by rw [hres]; exact World.ownsRow_nil .., hcw.into hk (by simp; omega)⟩
end Go.Proofs.YtldbaommeflooaaDoor.scr
