import Derived.Test.YtkedegbpkkgeaaaGreatTop15
import Derived.Test.YtkedegbpkkgeaaaGreatIter
import Derived.RegionIn
import Derived.BigRegionIn
import Derived.Shelf.Abstract
import Derived.Shelf.RegionOpen
/- TopFits: cost: the innermost of the loops that hold a place. -/
namespace Go.Proofs.YtkedegbpkkgeaaaGreat.tf
open Go Go.RowKit Go.Proofs.YtkedegbpkkgeaaaGreat.kit Go.Proofs.YtkedegbpkkgeaaaGreat.obj Go.Proofs.YtkedegbpkkgeaaaGreat.mem Go.Proofs.YtkedegbpkkgeaaaGreat.lay Go.Proofs.YtkedegbpkkgeaaaGreat.isa
set_option linter.unusedVariables false
set_option linter.unusedSimpArgs false
set_option maxRecDepth 20000

attribute [local go_sem] Oper.semAt_some
/-- a row from its end on, with the numbers -/
def revE (l : List (Int × Int)) : List (Int × Int × Int) := (List.range l.length).map fun (m : Nat) => ((l.length : Int) - 1 - (m : Int), l.getD (l.length - 1 - m) (0, 0))
theorem revE_len (l : List (Int × Int)) : (revE l).length = l.length := by simp [revE]
theorem revE_get {l : List (Int × Int)} {m q : Nat} {s : Int × Int} (hm : m < l.length) (hq : q + m + 1 = l.length) (hs : l[q]? = some s) : (revE l)[m]? = some ((q : Int), s) := by
  unfold revE
  rw [List.getElem?_map, List.getElem?_range hm]
  have e1 : l.length - 1 - m = q := by omega
  have e2 : (l.length : Int) - 1 - m = q := by omega
  simp only [Option.map_some, e1, e2, List.getD_eq_getElem?_getD, hs, Option.getD_some]
def KpN (n₀ : Nat) (W W' : World) : Prop := W.heap.size ≤ W'.heap.size ∧ ∀ k, k < n₀ → W'.heap[k]? = W.heap[k]?
def spE (x : Int × Int × Int) : Array Value := #[.int .i64 x.1, .agg #[.int .i64 x.2.1, .int .i64 x.2.2]]
theorem prefix_snoc {α : Type} {xs : List α} {j : Nat} {x : α} (h : xs[j]? = some x) : xs.take j ++ [x] <+: xs := by
  rw [← take_snoc h]
  exact List.take_prefix _ _
theorem cell_low {w V : World} {b o : Nat} {v : Value} (h : w.cell? ⟨b, o, none⟩ = some v) (k : ∀ q, q < w.heap.size → V.heap[q]? = w.heap[q]?) : V.cell? ⟨b, o, none⟩ = some v := by
  have hlt : b < w.heap.size := by
    rcases Nat.lt_or_ge b w.heap.size with h' | h'
    · exact h'
    · simp [World.cell?, Array.getElem?_eq_none h'] at h
  unfold World.cell? at h ⊢
  rw [k b hlt]
  exact h
theorem back_any (v : Value) (w : World) (a : Option Addr) (n c : Nat) (hv : v = .slice a n c) :
    Calls Tryz.prog 176 #[v] w fun e w' => e = .returned (.func (.func 182) #[] #[.pointer (some ⟨w.heap.size, 0, none⟩)]) ∧ w' = w.alloc (.cells #[v] 113) := by
  subst hv
  go_enter Tryz.func176, Tryz.ntmps176
  go_wp2_with fail
  go_ret
  exact ⟨rfl, rfl⟩
set_option maxHeartbeats 4000000 in
theorem back1_ok (n : Nat) (hn : 1 ≤ n) (b : Nat) (va : Option Addr) (lc : Nat) (l : List (Int × Int)) (w : World) (hr : ReadsS w (.slice va l.length lc) l) (hlen : l.length ≤ 1000) (hb : w.cell? ⟨b, 0, none⟩ = some (.slice va l.length lc)) :
    IterOK Fence.wide n Tryz.prog 182 #[.pointer (some ⟨b, 0, none⟩)] spE [] (KpN w.heap.size) (fun xs => xs = revE l) (fun pre => pre <+: revE l) (fun pre x _ => pre ++ [x] <+: revE l) w := fun L J Jx W hW hJ hJx hY h0 => by
  have hkW : ∀ k, k < w.heap.size → W.heap[k]? = w.heap[k]? := fun k hk => hW.block k hk (by simp)
  obtain ⟨-, b1, o1, hx1, hc1⟩ := spans_at hr
  have HX1 := Lib.hid hx1
  have HC1 : Hid (∀ (V : World), (∀ q, q < w.heap.size → V.heap[q]? = w.heap[q]?) → ∀ (j : Nat) (d : Int × Int), l[j]? = some d → SC V b1 (o1 + j * 2) d) := Lib.hid (fun V hV j d hd => by
    obtain ⟨q0, q1⟩ := hc1 w (Chg.refl _ _) j d hd
    exact ⟨cell_low q0 hV, cell_low q1 hV⟩)
  have HB : Hid (∀ (V : World), (∀ q, q < w.heap.size → V.heap[q]? = w.heap[q]?) → V.cell? ⟨b, 0, none⟩ = some (.slice va l.length lc)) := Lib.hid (fun V hV => cell_low hb hV)
  have HLE := Lib.hid hlen
  have HJ := Lib.hid hJ
  have HKW := Lib.hid hkW
  have kl : IntKind.i64.wrap ((l.length : Int) - 1) = (l.length : Int) - 1 := by rw [IntKind.wrap_i64]; omega
  clear hx1 hc1 hkW hW hr hlen hb
  refine callsIn_of_wp Tryz.func182 rfl trivial ?_ rfl
  simp only [Tryz.ntmps182, List.size_toArray, List.length_cons, List.length_nil, Nat.reduceAdd, Nat.reduceSub, Array.replicate_succ, Array.replicate_zero, List.push_toArray, List.append_toArray, List.nil_append, List.cons_append]
  have cW : W.cell? ⟨b, 0, none⟩ = some (.slice va l.length lc) := HB.out W HKW.out
  gi_wp2
  clear cW kl
  gi_loopw [3] (fun i wr => ∃ m : Nat, m ≤ l.length ∧ i = .int .i64 ((l.length : Int) - 1 - m) ∧ Hid (J ((revE l).take m) wr) ∧ Hid (∀ k, k < w.heap.size → wr.heap[k]? = w.heap[k]?)) (fun i _ => (intOf i + 1).toNat)
  case atStart => exact ⟨0, Nat.zero_le _, by simp, Lib.hid h0, HKW⟩
  case round =>
    obtain ⟨m, hm, rfl, HJS, HKR⟩ := hrel
    by_cases hlt : m < l.length
    · obtain ⟨q, hq⟩ : ∃ q : Nat, q + m + 1 = l.length := ⟨l.length - 1 - m, by omega⟩
      have he : (l.length : Int) - 1 - m = (q : Int) := by omega
      rw [he]
      have hql : q < l.length := by omega
      have g1 := HX1.out q hql
      obtain ⟨s, hs⟩ : ∃ s, l[q]? = some s := ⟨_, List.getElem?_eq_getElem hql⟩
      obtain ⟨q0, q1⟩ := HC1.out wr HKR.out q s hs
      have c0 := HB.out wr HKR.out
      have hwg := revE_get hlt hq hs
      have m0 : (0 : Int) ≤ (q : Int) := by omega
      have kq : IntKind.i64.wrap ((q : Int) - 1) = (q : Int) - 1 := by rw [IntKind.wrap_i64]; have := HLE.out; omega
      obtain ⟨s1, s2⟩ := s
      simp only at q0 q1
      obtain ⟨fn, tmps, assign, body, hy, hR⟩ := hY _ ((q : Int), s1, s2) wr HJS.out (prefix_snoc hwg)
      unfold spE at hy
      simp only at hy
      have HWG := Lib.hid hwg
      have HQ := Lib.hid hq
      have HLT := Lib.hid hlt
      clear hm hlt hq hql hs hwg he
      gi_wp2
      refine hR.mono ?_
      rintro e W3 (⟨rfl, hJ3, hk3⟩ | ⟨rfl, hJx3⟩)
      · have HK3 : Hid (∀ k, k < w.heap.size → W3.heap[k]? = w.heap[k]?) := Lib.hid (fun k hk => by rw [hk3.2 k hk, HKR.out k hk])
        have HJ3 : Hid (J ((revE l).take (m + 1)) W3) := Lib.hid (by rw [take_snoc HWG.out]; exact hJ3)
        clear hk3 hJ3 q0 q1 c0 hy hR
        gi_wp2
        go_roundw
        case rel => exact ⟨m + 1, by have := HLT.out; omega, by have := HQ.out; refine congrArg (Value.int IntKind.i64) ?_; push_cast; omega, HJ3, HK3⟩
        case measure => (simp [intOf]) <;> omega
      · gi_wp2
        refine bodyPost_ret (results_none rfl _ _ _) rfl ?_
        exact ⟨⟨_, rfl⟩, .inr ⟨_, prefix_snoc HWG.out, hJx3⟩⟩
    · obtain rfl : l.length = m := by omega
      have he : (l.length : Int) - 1 - (l.length : Int) = -1 := by omega
      rw [he]
      clear hlt hm he
      rw [← revE_len l, List.take_length] at HJS
      gi_wp2
      go_end0
      exact ⟨⟨_, rfl⟩, .inl ⟨_, rfl, HJS.out⟩⟩
theorem revE_snd (l : List (Int × Int)) : (revE l).map (·.2) = l.reverse := by
  refine List.ext_getElem? fun m => ?_
  rw [List.getElem?_map]
  by_cases h : m < l.length
  · obtain ⟨q, hq⟩ : ∃ q : Nat, q + m + 1 = l.length := ⟨l.length - 1 - m, by omega⟩
    have hs : l[q]? = some (l[q]'(by omega)) := List.getElem?_eq_getElem (by omega)
    rw [revE_get h hq hs, List.getElem?_reverse h, show l.length - 1 - m = q by omega, hs]
    rfl
  · rw [List.getElem?_eq_none (by rw [revE_len]; omega), List.getElem?_eq_none (by simpa using h)]
    rfl
theorem outer_some {l : List (Int × Int)} {pc : Int} {part : Int × Int} {pre : List (Int × Int × Int)} {x : Int × Int × Int} (hp : pre ++ [x] <+: revE l) (hn : ∀ y ∈ pre, outerP pc part y.2 = false) (hx : outerP pc part x.2 = true) : outerM l pc part = some x.2 := by
  obtain ⟨t, ht⟩ := hp
  have h1 := revE_snd l
  rw [← ht] at h1
  unfold outerM
  rw [← h1, List.map_append, List.map_append, List.append_assoc, List.find?_append]
  have h2 : (pre.map (·.2)).find? (outerP pc part) = none := by
    rw [List.find?_eq_none]
    intro y hy
    obtain ⟨z, hz, rfl⟩ := List.mem_map.1 hy
    simp [hn z hz]
  rw [h2]
  simp [hx]
theorem outer_none {l : List (Int × Int)} {pc : Int} {part : Int × Int} (hn : ∀ y ∈ revE l, outerP pc part y.2 = false) : outerM l pc part = none := by
  unfold outerM
  rw [← revE_snd, List.find?_eq_none]
  intro y hy
  obtain ⟨z, hz, rfl⟩ := List.mem_map.1 hy
  simp [hn z hz]
/-- between two rounds -/
def PO (G : Nat) (W : World) (pc : Int) (part : Int × Int) (pre : List (Int × Int × Int)) (V : World) : Prop := (∀ y ∈ pre, outerP pc part y.2 = false) ∧
  ((Blk V G #[.int .i64 pc] 3 ∧ Blk V (G + 1) #[.int .i64 part.1, .int .i64 part.2] 117) ∧ Blk V (G + 1 + 1) #[.int .i64 0, .int .i64 0] 117 ∧ Blk V (G + 1 + 1 + 1) #[.bool false] 4) ∧ Chg [] W V
/-- a round has left -/
def PXo (G : Nat) (W : World) (l : List (Int × Int)) (pc : Int) (part : Int × Int) (c : Code) (pre : List (Int × Int × Int)) (V : World) : Prop := c = .ret ∧ ∃ s, outerM l pc part = some s ∧
  (Blk V (G + 1 + 1) #[.int .i64 s.1, .int .i64 s.2] 117 ∧ Blk V (G + 1 + 1 + 1) #[.bool true] 4) ∧ Chg [] W V
theorem PO.keep {G : Nat} {W A B : World} {pc : Int} {part : Int × Int} {pre : List (Int × Int × Int)} {L : List Nat} (h : PO G W pc part pre A) (k : Chg L A B) (hL : ∀ y ∈ L, W.heap.size ≤ y ∧ G + 3 < y) : PO G W pc part pre B := by
  obtain ⟨h1, ⟨⟨h2, h3⟩, h4, h5⟩, h7⟩ := h
  refine ⟨h1, ⟨⟨h2.keep k (fun hn => ?_), h3.keep k (fun hn => ?_)⟩, h4.keep k (fun hn => ?_), h5.keep k (fun hn => ?_)⟩, h7.into k (fun y hy => .inr (hL y hy).1)⟩
  all_goals (have := hL _ hn; omega)
theorem PXo.keep {G : Nat} {W A B : World} {l : List (Int × Int)} {pc : Int} {part : Int × Int} {c : Code} {pre : List (Int × Int × Int)} {L : List Nat} (h : PXo G W l pc part c pre A) (k : Chg L A B) (hL : ∀ y ∈ L, W.heap.size ≤ y ∧ G + 3 < y) : PXo G W l pc part c pre B := by
  obtain ⟨h0, s, h1, ⟨h4, h5⟩, h7⟩ := h
  refine ⟨h0, s, h1, ⟨h4.keep k (fun hn => ?_), h5.keep k (fun hn => ?_)⟩, h7.into k (fun y hy => .inr (hL y hy).1)⟩
  all_goals (have := hL _ hn; omega)
theorem aggB (w : World) : (isAgg 4).run Tryz.prog w = .ok false w := run_isAgg_plain Tryz.underlying4 rfl w
theorem results_row_cell {P : Program} {fn : Func} {p q : Tmp} {ty tq : TypeId} (h : fn.results = #[.cell p ty, .cell q tq]) (tmps : Array Value) (w : World) (g : Nat) (t : TypeId) (cs : Array Value) (fr : Nat × Nat) (d : TypeDesc) (g2 : Nat) (v2 : Value)
    (hp : tmps.getD p undef = .pointer (some ⟨g, 0, none⟩)) (hq : tmps.getD q undef = .pointer (some ⟨g2, 0, none⟩)) (hg : w.heap[g]? = some (.cells cs t fr))
    (hu : P.underlying ty = some d) (hd : (match d with | .struct _ | .array _ _ => true | _ => false) = true) (hi : (P.info? ty).map (·.size) = some cs.size) (a2 : (isAgg tq).run P w = .ok false w) (c2 : w.cell? ⟨g2, 0, none⟩ = some v2) :
    (results fn tmps).run P w = .ok (.tuple #[.agg cs, v2]) w := by
  have hp' : tmps[p]?.getD undef = .pointer (some ⟨g, 0, none⟩) := by simpa using hp
  have hq' : tmps[q]?.getD undef = .pointer (some ⟨g2, 0, none⟩) := by simpa using hq
  have hl : (loadVar tq ⟨g2, 0, none⟩).run P w = .ok v2 w := by simp [loadVar, a2, c2, go_sem]
  simp [results, h, hp', hq', asAddr, run_loadVar_row w g t ty cs fr d hg hu hd hi, hl]
def outV (o : Option (Int × Int)) : Value := match o with | some s => .tuple #[.agg #[.int .i64 s.1, .int .i64 s.2], .bool true] | none => .tuple #[.agg #[.int .i64 0, .int .i64 0], .bool false]
set_option maxHeartbeats 8000000 in
theorem outer_any (bm : Nat) (pa : Option Addr) (pc : Nat) (wa : Option Addr) (wc : Nat) (la : Option Addr) (lc : Nat) (p : List Ins) (ws : List Int) (n p1 p2 : Int) (W : World) (hm : Ms W bm pa pc wa wc la lc p ws) :
    Calls Tryz.prog 168 #[.pointer (some ⟨bm, 0, none⟩), .int .i64 n, .agg #[.int .i64 p1, .int .i64 p2]] W fun e W' => e = .returned (outV (outerM (loopsF 0 p) n (p1, p2))) ∧ Chg [] W W' := by
  have HRL := Lib.hid hm.rl
  have HLN : Hid ((loopsF 0 p).length ≤ 64) := Lib.hid (Nat.le_trans (loopsF_len 0 p) hm.fine.len.2)
  obtain ⟨LL, hLL⟩ : ∃ y, loopsF 0 p = y := ⟨_, rfl⟩
  have c2 := hm.c2
  rw [hLL] at HRL HLN c2
  rw [hLL]
  clear hLL hm
  refine (callsIn_wide (n := 5)).1 ?_
  refine callsIn_of_wp_marks Tryz.func168 rfl trivial ?_ rfl
  simp only [Tryz.ntmps168, List.size_toArray, List.length_cons, List.length_nil, Nat.reduceAdd, Nat.reduceSub, Array.replicate_succ, Array.replicate_zero, List.push_toArray, List.append_toArray, List.nil_append, List.cons_append]
  obtain ⟨w4, hw4⟩ : ∃ y, ((((W.alloc (.cells #[.int .i64 n] 3)).alloc (.cells #[.int .i64 p1, .int .i64 p2] 117)).alloc (.cells #[.int .i64 0, .int .i64 0] 117)).alloc (.cells #[.bool false] 4)) = y := ⟨_, rfl⟩
  have hc4 : Chg [] W w4 := by rw [← hw4]; exact ((((Chg.refl [] W).alloc _).alloc _).alloc _).alloc _
  have c2' := hc4.keep c2 (by simp)
  gi_wp2_with (refine ⟨trivial, ?_⟩; gi_at_call 176; refine (callsIn_wide.2 (back_any _ _ la LL.length lc rfl)).mono ?_; rintro e w' ⟨rfl, rfl⟩)
  obtain ⟨w0, hw0⟩ : ∃ y, w4.alloc (.cells #[.slice la LL.length lc] 113) = y := ⟨_, rfl⟩
  have hsz4 : w4.heap.size = W.heap.size + 4 := by rw [← hw4]; simp
  have hsz : w0.heap.size = W.heap.size + 5 := by rw [← hw0]; simp [hsz4]
  have hc0 : Chg [] W w0 := by rw [← hw0]; exact hc4.alloc _
  have hk4 : Chg [] w4 w0 := by rw [← hw0]; exact (Chg.refl [] _).alloc _
  have hbn : Blk w0 W.heap.size #[.int .i64 n] 3 := Blk.keep (by rw [← hw4]; exact (((Blk.new W _ _).alloc _).alloc _).alloc _) hk4 (by simp)
  have hbp : Blk w0 (W.heap.size + 1) #[.int .i64 p1, .int .i64 p2] 117 := Blk.keep (by
    rw [← hw4]
    have := ((Blk.new (W.alloc (.cells #[.int .i64 n] 3)) #[.int .i64 p1, .int .i64 p2] 117).alloc (.cells #[.int .i64 0, .int .i64 0] 117)).alloc (.cells #[.bool false] 4)
    rwa [show (W.alloc (.cells #[.int .i64 n] 3)).heap.size = W.heap.size + 1 by simp] at this) hk4 (by simp)
  have hbs : Blk w0 (W.heap.size + 1 + 1) #[.int .i64 0, .int .i64 0] 117 := Blk.keep (by
    rw [← hw4]
    have := (Blk.new ((W.alloc (.cells #[.int .i64 n] 3)).alloc (.cells #[.int .i64 p1, .int .i64 p2] 117)) #[.int .i64 0, .int .i64 0] 117).alloc (.cells #[.bool false] 4)
    rwa [show ((W.alloc (.cells #[.int .i64 n] 3)).alloc (.cells #[.int .i64 p1, .int .i64 p2] 117)).heap.size = W.heap.size + 1 + 1 by simp] at this) hk4 (by simp)
  have hbb : Blk w0 (W.heap.size + 1 + 1 + 1) #[.bool false] 4 := Blk.keep (by
    rw [← hw4]
    have := Blk.new (((W.alloc (.cells #[.int .i64 n] 3)).alloc (.cells #[.int .i64 p1, .int .i64 p2] 117)).alloc (.cells #[.int .i64 0, .int .i64 0] 117)) #[.bool false] 4
    rwa [show (((W.alloc (.cells #[.int .i64 n] 3)).alloc (.cells #[.int .i64 p1, .int .i64 p2] 117)).alloc (.cells #[.int .i64 0, .int .i64 0] 117)).heap.size = W.heap.size + 1 + 1 + 1 by simp] at this) hk4 (by simp)
  have hbx : w0.cell? ⟨w4.heap.size, 0, none⟩ = some (.slice la LL.length lc) := by rw [← hw0]; exact (Blk.new w4 _ _).cell rfl
  rw [hw0]
  have hrl0 := HRL.out.chg hc0
  clear hw0 hw4 c2 c2' hk4 hc4
  refine wpIn_rangeFunc_chg (α := Int × Int × Int) rfl (by omega) (gf := 182) (lb := #[.pointer (some ⟨w4.heap.size, 0, none⟩)]) rfl trivial (Go.Proofs.enters_of Tryz.func182 (by kernel_rfl) rfl)
    (back1_ok 4 (by omega) w4.heap.size la lc LL w0 hrl0 (by have := HLN.out; omega) hbx) (fun b hb => by simp at hb)
    (fun A B o' r hl hk => ⟨by simpa [World.putObj] using hk.1, fun k hkk => by rw [World.putObj_heap_other (by omega)]; exact hk.2 k hkk⟩) (fun _ => rfl)
    (PO W.heap.size W n (p1, p2)) (PXo W.heap.size W LL n (p1, p2)) ?hI ?hIx ?h0 ?hround ?hdone ?hstop
  case hI => exact fun pre A B r h _ k => h.keep k (by simp; omega)
  case hIx => exact fun c pre A B r h _ k => h.keep k (by simp; omega)
  case h0 => exact fun V k => ⟨by simp, ⟨⟨hbn.keep k (by simp), hbp.keep k (by simp)⟩, hbs.keep k (by simp), hbb.keep k (by simp)⟩, hc0.trans k⟩
  case hround =>
    rintro pre ⟨q, s1, s2⟩ V r hPO hR hD hl
    unfold spE
    gi_wp2
    have hlt : w0.heap.size + 1 < V.heap.size := (Array.getElem?_eq_some_iff.1 hl).1
    obtain ⟨r', hr'⟩ : ∃ r', ({ r with state := .busy } : Loop) = r' := ⟨_, rfl⟩
    rw [hr']
    obtain ⟨V1, hV1⟩ : ∃ V1, (V.alloc (.cells #[.int .i64 s1, .int .i64 s2] 117)).putObj (w0.heap.size + 1) (.loop r') = V1 := ⟨_, rfl⟩
    rw [hV1]
    have hlA := ((Chg.refl [] V).alloc (.cells #[.int .i64 s1, .int .i64 s2] 117)).heap hl (by simp)
    refine ⟨hlA, ?_⟩
    have hcV : Chg [w0.heap.size + 1] V V1 := by rw [← hV1]; exact ((Chg.refl [w0.heap.size + 1] V).alloc _).putObj hlA (.inl (by simp)) _
    have hPO1 := hPO.keep hcV (by simp; omega)
    have hl1 : V1.heap[w0.heap.size + 1]? = some (.loop r') := by rw [← hV1]; exact World.putObj_heap_same (by simp; omega)
    have hD1 : V1.heap[w0.heap.size]? = some (.deferred (some [])) := hcV.heap hD (by simp)
    have hact : Blk V1 V.heap.size #[.int .i64 s1, .int .i64 s2] 117 := by
      rw [← hV1]
      exact (World.putObj_heap_other (by omega)).trans (Blk.new V _ _)
    have hKP : KpN w0.heap.size V V1 := ⟨hcV.size, fun k hk => hcV.block k (by omega) (by simp; omega)⟩
    have k0 : V1.cell? ⟨V.heap.size, 0, none⟩ = some (.int .i64 s1) := hact.cell rfl
    have k1 : V1.cell? ⟨V.heap.size, 1, none⟩ = some (.int .i64 s2) := hact.cell rfl
    obtain ⟨hpre, ⟨⟨h2, h3⟩, h4, h5⟩, hcw⟩ := hPO1
    have j0 : V1.cell? ⟨W.heap.size, 0, none⟩ = some (.int .i64 n) := h2.cell rfl
    have j1 : V1.cell? ⟨W.heap.size + 1, 0, none⟩ = some (.int .i64 p1) := h3.cell rfl
    have j2 : V1.cell? ⟨W.heap.size + 1, 1, none⟩ = some (.int .i64 p2) := h3.cell rfl
    have FAIL : Hid (outerP n (p1, p2) (s1, s2) = false → (V1.heap[w0.heap.size]? = some (.deferred (some [])) ∧ V1.heap[w0.heap.size + 1]? = some (.loop r')) ∧ KpN w0.heap.size V V1 ∧ PO W.heap.size W n (p1, p2) (pre ++ [(q, s1, s2)]) V1) := Lib.hid (fun h =>
      ⟨⟨hD1, hl1⟩, hKP, fun y hy => by
        rcases List.mem_append.1 hy with hy | hy
        · exact hpre y hy
        · simp at hy; subst hy; exact h, ⟨⟨h2, h3⟩, h4, h5⟩, hcw⟩)
    have HPRE := Lib.hid hpre
    have HR := Lib.hid hR
    have H4 := Lib.hid h4
    have H5 := Lib.hid h5
    have HCW := Lib.hid hcw
    have HDD := Lib.hid (And.intro hD1 hl1)
    have HSZ := Lib.hid hsz
    have g60 : V1.cell? ⟨W.heap.size + 1 + 1, 0, none⟩ = some (.int .i64 0) := h4.cell rfl
    have g61 : V1.cell? ⟨W.heap.size + 1 + 1, 1, none⟩ = some (.int .i64 0) := h4.cell rfl
    have f60 := h4.free 0
    have f61 := h4.free 1
    have g7 : V1.cell? ⟨W.heap.size + 1 + 1 + 1, 0, none⟩ = some (.bool false) := h5.cell rfl
    have f7 := h5.free 0
    clear hpre hR h4 h5 hcw hD1 hl1 hPO hD hl hV1 hr' hlA hcV hact hKP h2 h3 hlt hrl0 hbx hbn hbp hbs hbb hc0 hsz hsz4
    by_cases hO : outerP n (p1, p2) (s1, s2) = true
    · have HO := Lib.hid hO
      simp only [outerP, decide_eq_true_eq] at hO
      obtain ⟨hne, x1, x2, x3, x4⟩ := hO
      have hne2 : ¬ s1 = p1 ∨ (s1 = p1 ∧ ¬ s2 = p2) := by
        by_cases h : s1 = p1
        · exact .inr ⟨h, fun h2 => hne (by rw [h, h2])⟩
        · exact .inl h
      clear hne
      have DONE : Hid (chgPost w0.heap.size r' (KpN w0.heap.size) (PO W.heap.size W n (p1, p2)) (PXo W.heap.size W LL n (p1, p2)) (pre ++ [(q, s1, s2)]) V .ret { tmps := #[], defers := [] } (((V1.setCell ⟨W.heap.size + 1 + 1, 0, none⟩ (.int .i64 s1)).setCell ⟨W.heap.size + 1 + 1, 1, none⟩ (.int .i64 s2)).setCell ⟨W.heap.size + 1 + 1 + 1, 0, none⟩ (.bool true))) := Lib.hid (by
        have hk : Chg [W.heap.size + 1 + 1, W.heap.size + 1 + 1 + 1] V1 (((V1.setCell ⟨W.heap.size + 1 + 1, 0, none⟩ (.int .i64 s1)).setCell ⟨W.heap.size + 1 + 1, 1, none⟩ (.int .i64 s2)).setCell ⟨W.heap.size + 1 + 1 + 1, 0, none⟩ (.bool true)) := (((Chg.refl _ V1).setCell (.inl (by simp)) _).setCell (.inl (by simp)) _).setCell (.inl (by simp)) _
        have hz := HSZ.out
        exact ⟨⟨hk.heap HDD.out.1 (by simp; omega), hk.heap HDD.out.2 (by simp; omega)⟩, rfl, (s1, s2), outer_some HR.out HPRE.out HO.out, ⟨((H4.out.set 0 _).set 1 _).set_ne (b' := W.heap.size + 1 + 1 + 1) (by omega) _ _ _, ((H5.out.set_ne (b' := W.heap.size + 1 + 1) (by omega) _ _ _).set_ne (b' := W.heap.size + 1 + 1) (by omega) _ _ _).set 0 _⟩, HCW.out.into hk (by simp; omega)⟩)
      rcases hne2 with hn | ⟨rfl, hn⟩
      · gi_wp2
        all_goals exact DONE.out
      · gi_wp2
        all_goals exact DONE.out
    · have HOF : Hid (outerP n (p1, p2) (s1, s2) = false) := Lib.hid (by simpa using hO)
      simp only [outerP, decide_eq_true_eq] at hO
      by_cases cE : s1 = p1 ∧ s2 = p2
      · obtain ⟨rfl, rfl⟩ := cE
        clear hO
        gi_wp2
        all_goals exact FAIL.out HOF.out
      · have hne2 : ¬ s1 = p1 ∨ (s1 = p1 ∧ ¬ s2 = p2) := by
          by_cases h : s1 = p1
          · exact .inr ⟨h, fun h2 => cE ⟨h, h2⟩⟩
          · exact .inl h
        have hO2 : ¬ (p1 ≤ s1 ∧ s2 ≤ p2 ∧ s1 ≤ n ∧ n ≤ s2) := fun h => hO ⟨fun e => cE (by cases e; exact ⟨rfl, rfl⟩), h⟩
        clear hO cE
        by_cases x1 : p1 ≤ s1
        · by_cases x2 : s2 ≤ p2
          · by_cases x3 : s1 ≤ n
            · have x4 : ¬ n ≤ s2 := fun h => hO2 ⟨x1, x2, x3, h⟩
              clear hO2
              rcases hne2 with hn | ⟨rfl, hn⟩
              · gi_wp2
                all_goals exact FAIL.out HOF.out
              · gi_wp2
                all_goals exact FAIL.out HOF.out
            · clear hO2
              rcases hne2 with hn | ⟨rfl, hn⟩
              · gi_wp2
                all_goals exact FAIL.out HOF.out
              · gi_wp2
                all_goals exact FAIL.out HOF.out
          · clear hO2
            rcases hne2 with hn | ⟨rfl, hn⟩
            · gi_wp2
              all_goals exact FAIL.out HOF.out
            · gi_wp2
              all_goals exact FAIL.out HOF.out
        · clear hO2
          rcases hne2 with hn | ⟨rfl, hn⟩
          · gi_wp2
            all_goals exact FAIL.out HOF.out
          · exact absurd (Int.le_refl _) x1
  case hdone =>
    rintro xs V rfl ⟨hpre, ⟨-, h4, h5⟩, hcw⟩ hK
    have HON : Hid (outerM LL n (p1, p2) = none) := Lib.hid (outer_none hpre)
    have g60 : V.cell? ⟨W.heap.size + 1 + 1, 0, none⟩ = some (.int .i64 0) := h4.cell rfl
    have g61 : V.cell? ⟨W.heap.size + 1 + 1, 1, none⟩ = some (.int .i64 0) := h4.cell rfl
    have f60 := h4.free 0
    have f61 := h4.free 1
    have g7 : V.cell? ⟨W.heap.size + 1 + 1 + 1, 0, none⟩ = some (.bool false) := h5.cell rfl
    have f7 := h5.free 0
    have H4 := Lib.hid h4
    have H5 := Lib.hid h5
    have HCW := Lib.hid hcw
    have HK := Lib.hid hK
    have HSZ := Lib.hid hsz
    clear hpre h4 h5 hcw hK hrl0 hbx hbn hbp hbs hbb hc0 hsz hsz4
    gi_wp2
    have hz := HSZ.out
    have hk : Chg [W.heap.size + 1 + 1, W.heap.size + 1 + 1 + 1] V (((V.setCell ⟨W.heap.size + 1 + 1, 0, none⟩ (.int .i64 0)).setCell ⟨W.heap.size + 1 + 1, 1, none⟩ (.int .i64 0)).setCell ⟨W.heap.size + 1 + 1 + 1, 0, none⟩ (.bool false)) := (((Chg.refl _ V).setCell (.inl (by simp)) _).setCell (.inl (by simp)) _).setCell (.inl (by simp)) _
    have hK2 := hk.heap HK.out (by simp; omega)
    refine ⟨by simp, .inl ⟨_, _, rfl, run_takeDeferred hK2, ?_⟩⟩
    have hk2 := (Chg.refl [w0.heap.size] _).putObj hK2 (.inl (by simp)) (.deferred none)
    refine ⟨_, results_row_cell rfl _ _ (W.heap.size + 1 + 1) 117 _ (0, 0) _ (W.heap.size + 1 + 1 + 1) (.bool false) rfl rfl (Blk.keep (((H4.out.set 0 (.int .i64 0)).set 1 (.int .i64 0)).set_ne (b' := W.heap.size + 1 + 1 + 1) (by omega) _ _ _) hk2 (by simp; omega)) Tryz.underlying117 rfl szSpan (aggB _) (Blk.cell (Blk.keep (((H5.out.set_ne (b' := W.heap.size + 1 + 1) (by omega) _ _ _).set_ne (b' := W.heap.size + 1 + 1) (by omega) _ _ _).set 0 (.bool false)) hk2 (by simp; omega)) rfl), ?_⟩
    exact ⟨by rw [HON.out]; rfl, (HCW.out.into hk (by simp; omega)).into hk2 (by simp; omega)⟩
  case hstop =>
    rintro c pre V hSp ⟨rfl, s, hs, ⟨h4, h5⟩, hcw⟩ hK
    gi_wp2
    refine ⟨by simp, .inl ⟨_, _, rfl, run_takeDeferred hK, ?_⟩⟩
    have hk : Chg [w0.heap.size] V (V.putObj w0.heap.size (.deferred none)) := (Chg.refl _ V).putObj hK (.inl (by simp)) _
    refine ⟨_, results_row_cell rfl _ _ (W.heap.size + 1 + 1) 117 _ (0, 0) _ (W.heap.size + 1 + 1 + 1) (.bool true) rfl rfl (h4.keep hk (by simp; omega)) Tryz.underlying117 rfl szSpan (aggB _) ((h5.keep hk (by simp; omega)).cell rfl), ?_⟩
    exact ⟨by rw [hs]; rfl, hcw.into hk (by simp; omega)⟩
end Go.Proofs.YtkedegbpkkgeaaaGreat.tf
/- TopFits: cost: rows of ways. -/
namespace Go.Proofs.YtkedegbpkkgeaaaGreat.tf
open Go Go.RowKit Go.Proofs.YtkedegbpkkgeaaaGreat.kit Go.Proofs.YtkedegbpkkgeaaaGreat.obj Go.Proofs.YtkedegbpkkgeaaaGreat.mem Go.Proofs.YtkedegbpkkgeaaaGreat.lay Go.Proofs.YtkedegbpkkgeaaaGreat.isa
set_option linter.unusedVariables false
set_option linter.unusedSimpArgs false
set_option maxRecDepth 20000

/-- a row of ways, in a block of its own -/
def AtB (W : World) (ba : Nat) (l : List (Int × Int)) : Prop := Blk W ba (l.flatMap spc).toArray 146
theorem index_at {t e size : Nat} (ht : Tryz.prog.underlying t = some (.slice e)) (he : (Tryz.prog.info? e).map (·.size) = some size) (g n c j : Nat) (hj : j < n) (u : World) : (Instr.indexAt t (.slice (some ⟨g, 0, none⟩) n c) (.int .i64 (j : Int))).run Tryz.prog u = .ok (.pointer (some ⟨g, j * size, none⟩)) u := by
  have hel : Tryz.prog.elem t = e := by simp [Program.elem, ht]
  rw [run_indexAt_slice (P := Tryz.prog) u t ⟨g, 0, none⟩ n c .i64 j (by rw [hel]; exact ht), hel, sizeOf_run he, if_pos ⟨by omega, by omega⟩]
  simp [Result.andThen, Go.Proofs.YtkedegbpkkgeaaaGreat.kit.add_plain]
theorem at_index (g n j : Nat) (hj : j < n) (u : World) : (Instr.indexAt 154 (.slice (some ⟨g, 0, none⟩) n n) (.int .i64 (j : Int))).run Tryz.prog u = .ok (.pointer (some ⟨g, j * 2, none⟩)) u := index_at Tryz.underlying154 szWay g n n j hj u
theorem AtB.at {W : World} {ba : Nat} {l : List (Int × Int)} (h : AtB W ba l) {j : Nat} {d : Int × Int} (hj : l[j]? = some d) :
    (W.cell? ⟨ba, j * 2, none⟩ = some (.int .i64 d.1) ∧ W.cell? ⟨ba, j * 2 + 1, none⟩ = some (.int .i64 d.2)) ∧ W.frozen? ⟨ba, j * 2, none⟩ = false ∧ W.frozen? ⟨ba, j * 2 + 1, none⟩ = false :=
  ⟨⟨Blk.cell h (by rw [List.getElem?_toArray]; exact flatMap_get spc 2 (fun _ => rfl) l j 0 (by decide) _ hj), Blk.cell h (by rw [List.getElem?_toArray]; exact flatMap_get spc 2 (fun _ => rfl) l j 1 (by decide) _ hj)⟩, Blk.free h _, Blk.free h _⟩
theorem spc_set : ∀ (l : List (Int × Int)) (j : Nat) (d : Int × Int), ((l.flatMap spc).set (j * 2) (.int .i64 d.1)).set (j * 2 + 1) (.int .i64 d.2) = (l.set j d).flatMap spc
  | [], j, d => by simp
  | a :: l, 0, d => rfl
  | a :: l, j + 1, d => by
    rw [List.flatMap_cons]
    show ((([_, _] ++ l.flatMap spc).set ((j + 1) * 2) _).set ((j + 1) * 2 + 1) _) = _
    rw [show (j + 1) * 2 = j * 2 + 1 + 1 by omega, show j * 2 + 1 + 1 + 1 = j * 2 + 1 + 1 + 1 from rfl, List.cons_append, List.cons_append, List.nil_append, List.set_cons_succ, List.set_cons_succ, List.set_cons_succ, List.set_cons_succ, spc_set l j d, List.set_cons_succ, List.flatMap_cons]
    rfl
theorem AtB.put {W : World} {ba : Nat} {l : List (Int × Int)} (h : AtB W ba l) (j : Nat) (a b : Int) : AtB ((W.setCell ⟨ba, j * 2, none⟩ (.int .i64 a)).setCell ⟨ba, j * 2 + 1, none⟩ (.int .i64 b)) ba (l.set j (a, b)) := by
  have h1 := (Blk.set h (j * 2) (.int .i64 a)).set (j * 2 + 1) (.int .i64 b)
  simp only [List.setIfInBounds_toArray] at h1
  rw [spc_set l j (a, b)] at h1
  exact h1
theorem AtB.reads {W : World} {ba : Nat} {l : List (Int × Int)} (h : AtB W ba l) (hl : l.length ≤ 1000) : ReadsS W (.slice (some ⟨ba, 0, none⟩) l.length l.length) l := by
  have e : (l.flatMap spc).length = l.length * 2 := by
    clear h hl
    induction l with
    | nil => rfl
    | cons a l ih => rw [List.flatMap_cons, List.length_append, ih, List.length_cons]; show 2 + _ = _; omega
  have own : W.ownsRow 0 146 2 (.slice (some ⟨ba, 0, none⟩) l.length l.length) l.length (l.flatMap spc) :=
    ⟨e, .inr ⟨ba, l.length, _, rfl, Nat.zero_le _, h, Nat.le_refl _, by unfold maxLen; omega, by simpa using e, List.take_of_length_le (by rw [List.toList_toArray, e]; exact Nat.le_refl _)⟩⟩
  exact Reads.of_own own (by decide)
theorem rep_spc (n : Nat) (z : Int) : (List.replicate n (z, z)).flatMap spc = List.replicate (n * 2) (.int .i64 z) := by
  induction n with
  | zero => rfl
  | succ n ih =>
    rw [List.replicate_succ, List.flatMap_cons, ih, show (n + 1) * 2 = n * 2 + 1 + 1 by omega, List.replicate_succ, List.replicate_succ]
    rfl
theorem made2 (z : Value) (n : Nat) : madeCells #[z, z] n = (List.replicate n z).toArray := by
  unfold madeCells
  apply Array.ext
  · simp
  · intro i h1 h2
    simp at h1
    have : i % 2 = 0 ∨ i % 2 = 1 := by omega
    rcases this with h | h <;> simp [h]
theorem infoWay : (Tryz.prog.info? 146).map (fun i => (i.zero, i.size, i.bytes)) = some (some (.agg #[.int .i64 0, .int .i64 0]), 2, 16) := by kernel_rfl
theorem make_ways (n : Nat) (hn : n ≤ 1000) (w : World) : (Instr.makeSlice 154 (.int .i64 (n : Int)) (.int .i64 (n : Int))).run Tryz.prog w = .ok (.slice (some ⟨w.heap.size, 0, none⟩) n n) (w.alloc (.cells ((List.replicate n ((0 : Int), (0 : Int))).flatMap spc).toArray 146)) := by
  obtain ⟨i0, hi0, hz0, hz1, hz2⟩ := info_parts infoWay
  have h := run_make (P := Tryz.prog) w 154 146 i0 _ Tryz.underlying154 hi0 hz0 .i64 .i64 n n (by omega) (by omega) (by rw [hz2]; omega) (by omega)
  simp only [Int.toNat_natCast, hz1] at h
  rw [rep_spc, ← made2]
  exact h
theorem fill_set (m N : Nat) (h : m < N) (a b : Int × Int) : (List.replicate m a ++ List.replicate (N - m) b).set m a = List.replicate (m + 1) a ++ List.replicate (N - (m + 1)) b := by
  refine List.ext_getElem? fun j => ?_
  rw [List.getElem?_set]
  simp only [List.getElem?_append, List.getElem?_replicate, List.length_replicate, List.length_append]
  by_cases h1 : m = j
  · subst h1
    rw [if_pos rfl, if_pos (by omega), if_pos (by omega), if_pos (by omega)]
  · rw [if_neg h1]
    by_cases h2 : j < m
    · rw [if_pos h2, if_pos h2, if_pos (show j < m + 1 by omega), if_pos (show j < m + 1 by omega)]
    · rw [if_neg h2, if_neg (show ¬ j < m + 1 by omega)]
      by_cases h3 : j < N
      · rw [if_pos (by omega), if_pos (by omega)]
      · rw [if_neg (by omega), if_neg (by omega)]
theorem atM_len (p : List Ins) (ws : List Int) (sub : Int × Int → Int × Int) (part : Int × Int) : ∀ k, (atM p ws sub part k).length = p.length + 1
  | 0 => by simp [atM]
  | k + 1 => by
    unfold atM updM
    split
    · rw [List.length_set, atM_len p ws sub part k]
    · split
      · rw [List.length_set, atM_len p ws sub part k]
      · exact atM_len p ws sub part k
theorem turns_bd {p : List Ins} (hf : FineP p) {j : Nat} {i : Ins} (hj : p[j]? = some i) (h16 : i.op = 16) : 1 ≤ i.c ∧ i.c ≤ 255 := by
  have h := hf.at hj
  obtain ⟨op, a, b, c, n⟩ := i
  simp only at h16 ⊢
  subst h16
  rw [show rightI ⟨16, a, b, c, n⟩ = _ from rightI_in 16 (by decide)] at h
  simp only [Bool.and_eq_true] at h
  have := h.2.2.1
  rw [show (shapeAt 16).c = 3 from by kernel_rfl] at this
  simpa [fitsI] using this
end Go.Proofs.YtkedegbpkkgeaaaGreat.tf
/- TopFits: cost: part. -/
namespace Go.Proofs.YtkedegbpkkgeaaaGreat.tf
open Go Go.RowKit Go.Proofs.YtkedegbpkkgeaaaGreat.kit Go.Proofs.YtkedegbpkkgeaaaGreat.obj Go.Proofs.YtkedegbpkkgeaaaGreat.mem Go.Proofs.YtkedegbpkkgeaaaGreat.lay Go.Proofs.YtkedegbpkkgeaaaGreat.isa
set_option linter.unusedVariables false
set_option linter.unusedSimpArgs false
set_option maxRecDepth 20000

set_option maxHeartbeats 16000000 in
theorem part_step (bm : Nat) (pa : Option Addr) (pc : Nat) (wa : Option Addr) (wc : Nat) (la : Option Addr) (lc : Nat) (p : List Ins) (ws : List Int) (n : Nat)
    (ih : ∀ (a e : Nat), a ≤ e → e < p.length → e - a < n → ∀ W, Ms W bm pa pc wa wc la lc p ws → Calls Tryz.prog 152 #[.pointer (some ⟨bm, 0, none⟩), .agg #[.int .i64 (a : Int), .int .i64 (e : Int)]] W fun r W' => r = .returned (wy (partM p ws n (a, e))) ∧ Chg [] W W')
    (a e : Nat) (hae : a ≤ e) (hep : e < p.length) (hen : e - a < n + 1) (W : World) (hm : Ms W bm pa pc wa wc la lc p ws) :
    Calls Tryz.prog 152 #[.pointer (some ⟨bm, 0, none⟩), .agg #[.int .i64 (a : Int), .int .i64 (e : Int)]] W fun r W' => r = .returned (wy (partM p ws (n + 1) (a, e))) ∧ Chg [] W W' := by
  obtain ⟨N, hN⟩ : ∃ N, p.length + 1 = N := ⟨_, rfl⟩
  have hNs : N ≤ 65 := by have := hm.fine.len.2; omega
  have kN : IntKind.i64.wrap ((p.length : Int) + 1) = (N : Int) := by rw [IntKind.wrap_i64]; omega
  have hmk := make_ways N (by omega)
  have HIH := Lib.hid ih
  have HM := Lib.hid hm
  have HB : Hid (a ≤ e ∧ e < p.length ∧ e - a < n + 1 ∧ p.length + 1 = N ∧ N ≤ 65) := Lib.hid ⟨hae, hep, hen, hN, hNs⟩
  have HC3 : Hid (Chg [] W (((W.alloc (.cells #[.int .i64 (a : Int), .int .i64 (e : Int)] 117)).alloc (.cells #[.int .i64 0, .int .i64 0] 146)).alloc (.cells ((List.replicate N ((0 : Int), (0 : Int))).flatMap spc).toArray 146))) := Lib.hid ((((Chg.refl [] W).alloc _).alloc _).alloc _)
  have HBP : Hid (Blk (((W.alloc (.cells #[.int .i64 (a : Int), .int .i64 (e : Int)] 117)).alloc (.cells #[.int .i64 0, .int .i64 0] 146)).alloc (.cells ((List.replicate N ((0 : Int), (0 : Int))).flatMap spc).toArray 146)) W.heap.size #[.int .i64 (a : Int), .int .i64 (e : Int)] 117) := Lib.hid (((Blk.new W _ _).alloc _).alloc _)
  have HBR : Hid (Blk (((W.alloc (.cells #[.int .i64 (a : Int), .int .i64 (e : Int)] 117)).alloc (.cells #[.int .i64 0, .int .i64 0] 146)).alloc (.cells ((List.replicate N ((0 : Int), (0 : Int))).flatMap spc).toArray 146)) (W.heap.size + 1) #[.int .i64 0, .int .i64 0] 146) := Lib.hid (by
    have := (Blk.new (W.alloc (.cells #[.int .i64 (a : Int), .int .i64 (e : Int)] 117)) #[.int .i64 0, .int .i64 0] 146).alloc (.cells ((List.replicate N ((0 : Int), (0 : Int))).flatMap spc).toArray 146)
    rwa [show (W.alloc (.cells #[.int .i64 (a : Int), .int .i64 (e : Int)] 117)).heap.size = W.heap.size + 1 by simp] at this)
  have HBA : Hid (AtB (((W.alloc (.cells #[.int .i64 (a : Int), .int .i64 (e : Int)] 117)).alloc (.cells #[.int .i64 0, .int .i64 0] 146)).alloc (.cells ((List.replicate N ((0 : Int), (0 : Int))).flatMap spc).toArray 146)) (W.heap.size + 1 + 1) (List.replicate N ((0 : Int), (0 : Int)))) := Lib.hid (by
    have := Blk.new ((W.alloc (.cells #[.int .i64 (a : Int), .int .i64 (e : Int)] 117)).alloc (.cells #[.int .i64 0, .int .i64 0] 146)) ((List.replicate N ((0 : Int), (0 : Int))).flatMap spc).toArray 146
    rwa [show ((W.alloc (.cells #[.int .i64 (a : Int), .int .i64 (e : Int)] 117)).alloc (.cells #[.int .i64 0, .int .i64 0] 146)).heap.size = W.heap.size + 1 + 1 by simp] at this)
  have c0 := (((Chg.refl [] W).alloc (.cells #[.int .i64 (a : Int), .int .i64 (e : Int)] 117)).alloc (.cells #[.int .i64 0, .int .i64 0] 146)).keep hm.c0 (by simp)
  clear ih hm hN hNs hae hep hen
  go_enter Tryz.func152, Tryz.ntmps152
  go_upto_region 2 with fail
  obtain ⟨w3, hw3⟩ : ∃ x, x = (((W.alloc (.cells #[.int .i64 (a : Int), .int .i64 (e : Int)] 117)).alloc (.cells #[.int .i64 0, .int .i64 0] 146)).alloc (.cells ((List.replicate N ((0 : Int), (0 : Int))).flatMap spc).toArray 146)) := ⟨_, rfl⟩
  rw [← hw3] at HC3 HBP HBR HBA
  try rw [← hw3]
  clear hw3 c0 kN hmk
  obtain ⟨A, hA⟩ : ∃ x, x = W.heap.size + 1 + 1 := ⟨_, rfl⟩
  rw [← hA] at HBA
  try rw [← hA]
  have HAA := Lib.hid hA
  clear hA
  have HWV : Hid (∀ V, Chg [A] w3 V → Chg [] W V) := Lib.hid (fun V hV => HC3.out.into hV (fun y hy => .inr (by have := HAA.out; simp at hy; omega)))
  have HSP : Hid (∀ V, Chg [A] w3 V → V.cell? ⟨W.heap.size, 0, none⟩ = some (.int .i64 (a : Int)) ∧ V.cell? ⟨W.heap.size, 1, none⟩ = some (.int .i64 (e : Int))) := Lib.hid (fun V hV => ⟨(HBP.out.keep hV (by have := HAA.out; simp; omega)).cell rfl, (HBP.out.keep hV (by have := HAA.out; simp; omega)).cell rfl⟩)
  go_wp2_with fail
  go_loopw [19] (fun q wr => ∃ m : Nat, m ≤ N ∧ q = .int .i64 m ∧ Hid (AtB wr A (List.replicate m ((-1 : Int), (-1 : Int)) ++ List.replicate (N - m) ((0 : Int), (0 : Int)))) ∧ Hid (Chg [A] w3 wr)) (fun q _ => N - (intOf q).toNat)
  case atStart => exact ⟨0, Nat.zero_le _, rfl, Lib.hid (by simpa using HBA.out), Lib.hid (Chg.refl _ _)⟩
  case round =>
    obtain ⟨m, hm, rfl, HAT, HJ⟩ := hrel
    by_cases hlm : m < N
    · have HLM := Lib.hid hlm
      have mm : (m : Int) < (N : Int) := by omega
      have g1 := at_index A N m hlm
      have hget : (List.replicate m ((-1 : Int), (-1 : Int)) ++ List.replicate (N - m) ((0 : Int), (0 : Int)))[m]? = some (0, 0) := by
        simp only [List.getElem?_append, List.getElem?_replicate, List.length_replicate]
        rw [if_neg (by omega), if_pos (by omega)]
      obtain ⟨⟨q0, q1⟩, f0, f1⟩ := HAT.out.at hget
      simp only at q0 q1
      have HAT2 : Hid (AtB ((wr.setCell ⟨A, m * 2, none⟩ (.int .i64 (-1))).setCell ⟨A, m * 2 + 1, none⟩ (.int .i64 (-1))) A (List.replicate (m + 1) ((-1 : Int), (-1 : Int)) ++ List.replicate (N - (m + 1)) ((0 : Int), (0 : Int)))) := Lib.hid (by rw [← fill_set m N hlm]; exact HAT.out.put m (-1) (-1))
      have HJ2 : Hid (Chg [A] w3 ((wr.setCell ⟨A, m * 2, none⟩ (.int .i64 (-1))).setCell ⟨A, m * 2 + 1, none⟩ (.int .i64 (-1)))) := Lib.hid ((HJ.out.setCell (.inl (by simp)) _).setCell (.inl (by simp)) _)
      have k9 : IntKind.i64.wrap ((m : Int) + 1) = (m : Int) + 1 := by rw [IntKind.wrap_i64]; have := HB.out; omega
      clear hget hlm hm
      go_wp2_with fail
      have hlm := HLM.out
      go_roundw
      case rel => exact ⟨m + 1, by omega, by go_num, HAT2, HJ2⟩
      case measure => simp [intOf]; omega
    · obtain rfl : N = m := by omega
      have mm : ¬ (N : Int) < (N : Int) := by omega
      have HAT0 : Hid (AtB wr A (atM p ws (partM p ws n) (a, e) 0)) := Lib.hid (by have h := HAT.out; unfold atM; rw [HB.out.2.2.2.1]; simpa using h)
      clear hlm hm HAT
      obtain ⟨s0, s1⟩ := HSP.out wr HJ.out
      go_wp2_with fail
      clear s0 s1
      go_loopw [7] (fun q wr => ∃ k : Nat, k ≤ e + 1 - a ∧ q = .int .i64 ((e : Int) - k) ∧ Hid (AtB wr A (atM p ws (partM p ws n) (a, e) k)) ∧ Hid (Chg [A] w3 wr)) (fun q _ => (intOf q + 1).toNat)
      case atStart => exact ⟨0, Nat.zero_le _, by simp, HAT0, HJ⟩
      case round =>
        clear HJ HAT0
        obtain ⟨k, hk, rfl, HAT, HJ⟩ := hrel
        obtain ⟨s0, s1⟩ := HSP.out wr HJ.out
        by_cases hlk : k < e + 1 - a
        · obtain ⟨q, hq⟩ : ∃ q : Nat, q + k = e := ⟨e - k, by omega⟩
          have he : (e : Int) - (k : Int) = (q : Int) := by omega
          have HQ : Hid (q + k = e ∧ a ≤ q ∧ k < e + 1 - a) := Lib.hid (by omega)
          have mq : (a : Int) ≤ (q : Int) := by omega
          have hqp : q < p.length := by have := HB.out; omega
          obtain ⟨i, hi⟩ : ∃ i, p[q]? = some i := ⟨_, List.getElem?_eq_getElem hqp⟩
          obtain ⟨l, hl⟩ : ∃ l, atM p ws (partM p ws n) (a, e) k = l := ⟨_, rfl⟩
          have hll : l.length = N := by rw [← hl, atM_len]; exact HB.out.2.2.2.1
          rw [hl] at HAT
          have hstep : atM p ws (partM p ws n) (a, e) (k + 1) = updM p ws (partM p ws n) (a, e) (q : Int) l := by
            show updM p ws (partM p ws n) (a, e) ((e : Int) - (k : Int)) (atM p ws (partM p ws n) (a, e) k) = _
            rw [hl, he]
          have HOU := Lib.hid (fun V (hV : Chg [A] w3 V) => outer_any bm pa pc wa wc la lc p ws q a e V (HM.out.chg (HWV.out V hV)))
          obtain ⟨ou, hou⟩ : ∃ o, outerM (loopsF 0 p) q (a, e) = o := ⟨_, rfl⟩
          rw [hou] at HOU
          have hgi : p.getD ((q : Int)).toNat insD = i := by rw [List.getD_eq_getElem?_getD, Int.toNat_natCast, hi]; rfl
          have kq : IntKind.i64.wrap ((q : Int) - 1) = (q : Int) - 1 := by rw [IntKind.wrap_i64]; have := HB.out; omega
          have gq := at_index A N q (by have := HB.out; omega)
          obtain ⟨dq, hdq⟩ : ∃ d, l[q]? = some d := ⟨_, List.getElem?_eq_getElem (by rw [hll]; have := HB.out; omega)⟩
          have HLL := Lib.hid hll
          have HI := Lib.hid hi
          have HDQ := Lib.hid hdq
          rw [he]
          have HHE := Lib.hid he
          cases ou with
          | none =>
            have HUP : Hid (atM p ws (partM p ws n) (a, e) (k + 1) = l.set q (stepM i q (ws.getD q 0) l)) := Lib.hid (by
              rw [hstep]; unfold updM; rw [hou, hgi]; simp only [Int.toNat_natCast])
            rw [show outV none = .tuple #[.agg #[.int .i64 0, .int .i64 0], .bool false] from rfl] at HOU
            obtain ⟨⟨x1, x2⟩, hx⟩ : ∃ x, stepM i q (ws.getD q 0) l = x := ⟨_, rfl⟩
            rw [hx] at HUP
            have HST := Lib.hid (fun V (hV : Chg [A] w3 V) (hat : AtB V A l) => by
              have h := step_any bm pa pc wa wc la lc p ws (.slice (some ⟨A, 0, none⟩) N N) l V (HM.out.chg (HWV.out V hV)) (by have h := hat.reads (by rw [HLL.out]; have := HB.out; omega); rwa [HLL.out] at h) (by rw [HLL.out]; exact HB.out.2.2.2.1.symm) q i HI.out
              rw [hx] at h
              exact h)
            rw [show wy (x1, x2) = .agg #[.int .i64 x1, .int .i64 x2] from rfl] at HST
            clear hq hlk hk hqp hi hl hll hstep hou hgi hdq hx he
            go_wp2_with (first
              | (go_at_call 168; refine (HOU.out _ HJ.out).mono ?_; rintro r w4 ⟨rfl, hc4⟩; have HJA : Hid (Chg [A] w3 (w4.alloc (.cells #[.int .i64 0, .int .i64 0] 117))) := Lib.hid ((HJ.out.fresh hc4).alloc _); have HAA4 : Hid (AtB (w4.alloc (.cells #[.int .i64 0, .int .i64 0] 117)) A l) := Lib.hid ((Blk.keep HAT.out hc4 (by simp)).alloc _); clear hc4)
              | (go_at_call 169; refine (HST.out _ HJA.out HAA4.out).mono ?_; rintro r w5 ⟨rfl, hc5⟩; have HJ5 := Lib.hid (HJA.out.fresh hc5); have HAT5 : Hid (AtB w5 A l) := Lib.hid (Blk.keep HAA4.out hc5 (by simp)); obtain ⟨⟨z0, z1⟩, f0, f1⟩ := HAT5.out.at HDQ.out; clear hc5))
            have HAT6 : Hid (AtB ((w5.setCell ⟨A, q * 2, none⟩ (.int .i64 x1)).setCell ⟨A, q * 2 + 1, none⟩ (.int .i64 x2)) A (l.set q (x1, x2))) := Lib.hid (HAT5.out.put q x1 x2)
            have HJ6 : Hid (Chg [A] w3 ((w5.setCell ⟨A, q * 2, none⟩ (.int .i64 x1)).setCell ⟨A, q * 2 + 1, none⟩ (.int .i64 x2))) := Lib.hid ((HJ5.out.setCell (.inl (by simp)) _).setCell (.inl (by simp)) _)
            go_roundw
            case rel => exact ⟨k + 1, by have := HQ.out; omega, by have := HHE.out; refine congrArg (Value.int IntKind.i64) ?_; push_cast; omega, by rw [HUP.out]; exact HAT6, HJ6⟩
            case measure => (simp [intOf]) <;> omega
          | some s =>
            have hfs : outerP q (a, e) s = true := List.find?_some (by unfold outerM at hou; exact hou)
            have hmem : s ∈ loopsF 0 p := by
              have := List.mem_of_find?_eq_some (by unfold outerM at hou; exact hou)
              simpa using this
            obtain ⟨ix, hix⟩ := List.mem_iff_getElem?.1 hmem
            obtain ⟨j, i2, hj, h16, rfl⟩ := loopsF_get 0 p ix s hix
            simp only [outerP, decide_eq_true_eq] at hfs
            obtain ⟨hne, y1, y2, y3, y4⟩ := hfs
            obtain ⟨b, hb⟩ : ∃ b : Nat, i2.n = (b : Int) := ⟨i2.n.toNat, by omega⟩
            have hj0 : ((0 + j : Nat) : Int) = (j : Int) := by omega
            simp only [hb, hj0] at hne y1 y2 y3 y4 hou HOU
            have hB := HB.out
            have hlt : j - b < n := by
              by_cases h1 : a = b
              · have h2 : j ≠ e := fun h2 => hne (by rw [h1, h2])
                omega
              · omega
            rw [show outV (some ((b : Int), (j : Int))) = .tuple #[.agg #[.int .i64 (b : Int), .int .i64 (j : Int)], .bool true] from rfl] at HOU
            by_cases hbq : b = q
            rotate_left
            · have HUP : Hid (atM p ws (partM p ws n) (a, e) (k + 1) = l) := Lib.hid (by
                rw [hstep]; unfold updM; rw [hou]; simp only; rw [if_neg (by omega)])
              have dq : ((b : Int) == (q : Int)) = false := beq_eq_false_iff_ne.2 (by omega)
              clear hq hlk hk hqp hi hl hll hstep hou hgi hdq he hmem hix hj h16 hne y1 y2 y3 y4 hb hj0 hB hlt hbq
              go_wp2_with (go_at_call 168; refine (HOU.out _ HJ.out).mono ?_; rintro r w4 ⟨rfl, hc4⟩; have HJA : Hid (Chg [A] w3 (w4.alloc (.cells #[.int .i64 (b : Int), .int .i64 (j : Int)] 117))) := Lib.hid ((HJ.out.fresh hc4).alloc _); have HAA4 : Hid (AtB (w4.alloc (.cells #[.int .i64 (b : Int), .int .i64 (j : Int)] 117)) A l) := Lib.hid ((Blk.keep HAT.out hc4 (by simp)).alloc _); clear hc4)
              go_roundw
              case rel => exact ⟨k + 1, by have := HQ.out; omega, by have := HHE.out; refine congrArg (Value.int IntKind.i64) ?_; push_cast; omega, by rw [HUP.out]; exact HAA4, HJA⟩
              case measure => (simp [intOf]) <;> omega
            · subst hbq
              have hjl : j < p.length := by omega
              obtain ⟨⟨d1, d2⟩, hd⟩ : ∃ d, l[j + 1]? = some d := ⟨_, List.getElem?_eq_getElem (by rw [hll]; omega)⟩
              have hgj : p.getD ((j : Int)).toNat insD = i2 := by rw [List.getD_eq_getElem?_getD, Int.toNat_natCast, hj]; rfl
              have hwd : wayAt l ((j : Int) + 1) = (d1, d2) := wayAt_get (k := j + 1) hd
              have hc := turns_bd HM.out.fine hj h16
              obtain ⟨⟨t1, t2⟩, ht⟩ : ∃ t, partM p ws n ((b : Int), (j : Int)) = t := ⟨_, rfl⟩
              obtain ⟨⟨x1, x2⟩, hx⟩ : ∃ x, roundsM (t1, t2) (d1, d2) i2.c = x := ⟨_, rfl⟩
              have HUP : Hid (atM p ws (partM p ws n) (a, e) (k + 1) = l.set b (x1, x2)) := Lib.hid (by
                rw [hstep]; unfold updM; rw [hou]; simp only; rw [if_pos trivial, hwd, ht, hgj, hx]; simp only [Int.toNat_natCast])
              have HPT := Lib.hid (fun V (hV : Chg [A] w3 V) => by
                have h := HIH.out b j (by omega) hjl hlt V (HM.out.chg (HWV.out V hV))
                rw [ht] at h
                exact h)
              rw [show wy (t1, t2) = .agg #[.int .i64 t1, .int .i64 t2] from rfl] at HPT
              have HRD := Lib.hid (fun V (hV : Chg [A] w3 V) => by
                have h := rounds_any bm t1 t2 d1 d2 i2.c V (by omega) (HM.out.chg (HWV.out V hV)).c3
                rw [hx] at h
                exact h)
              rw [show wy (x1, x2) = .agg #[.int .i64 x1, .int .i64 x2] from rfl] at HRD
              obtain ⟨-, b2, o2, hx2, hc2⟩ := code_at HM.out.rp
              have gp := hx2 j hjl
              have HQC : Hid (∀ V, Chg [] W V → V.cell? ⟨b2, o2 + j * 5 + 3, none⟩ = some (.int .i64 i2.c)) := Lib.hid (fun V hV => (hc2 V hV j _ hj).2.2.2.1)
              have kj : IntKind.i64.wrap ((j : Int) + 1) = (j : Int) + 1 := by rw [IntKind.wrap_i64]; omega
              have gj : ∀ u, (Instr.indexAt 154 (.slice (some ⟨A, 0, none⟩) N N) (.int .i64 ((j : Int) + 1))).run Tryz.prog u = .ok (.pointer (some ⟨A, (j + 1) * 2, none⟩)) u := fun u => by have h := at_index A N (j + 1) (by omega) u; rwa [show ((j + 1 : Nat) : Int) = (j : Int) + 1 by omega] at h
              have HD := Lib.hid hd
              clear hq hlk hk hqp hi hl hll hstep hou hgi hdq he hmem hix hj h16 hne y1 y2 y3 y4 hb hj0 hB hlt hjl hd hgj hwd hc ht hx hx2 hc2
              go_upto_region 14 with (go_at_call 168; refine (HOU.out _ HJ.out).mono ?_; rintro r w4 ⟨rfl, hc4⟩; have HJA : Hid (Chg [A] w3 (w4.alloc (.cells #[.int .i64 (b : Int), .int .i64 (j : Int)] 117))) := Lib.hid ((HJ.out.fresh hc4).alloc _); have HAA4 : Hid (AtB (w4.alloc (.cells #[.int .i64 (b : Int), .int .i64 (j : Int)] 117)) A l) := Lib.hid ((Blk.keep HAT.out hc4 (by simp)).alloc _); have HBN := Lib.hid (Blk.new w4 #[.int .i64 (b : Int), .int .i64 (j : Int)] 117); clear hc4)
              have KEEP : Hid (∀ V, Chg [] (w4.alloc (.cells #[.int .i64 (b : Int), .int .i64 (j : Int)] 117)) V → (fun V : World => (V.cell? ⟨w4.heap.size, 0, none⟩ = some (.int .i64 (b : Int)) ∧ V.cell? ⟨w4.heap.size, 1, none⟩ = some (.int .i64 (j : Int))) ∧ (V.cell? ⟨A, (j + 1) * 2, none⟩ = some (.int .i64 d1) ∧ V.cell? ⟨A, (j + 1) * 2 + 1, none⟩ = some (.int .i64 d2)) ∧ V.cell? ⟨b2, o2 + j * 5 + 3, none⟩ = some (.int .i64 i2.c) ∧ V.cell? ⟨bm, 0, none⟩ = some (.slice pa p.length pc) ∧ Hid (Chg [] (w4.alloc (.cells #[.int .i64 (b : Int), .int .i64 (j : Int)] 117)) V)) V) := Lib.hid (fun V hV => by
                have hV3 := HJA.out.fresh hV
                have hA : AtB V A l := Blk.keep HAA4.out hV (by simp)
                exact ⟨⟨(HBN.out.keep hV (by simp)).cell rfl, (HBN.out.keep hV (by simp)).cell rfl⟩, (hA.at HD.out).1, HQC.out V (HWV.out V hV3), (HWV.out V hV3).keep HM.out.c0 (by simp), Lib.hid hV⟩)
              have hHeld : (fun V : World => (V.cell? ⟨w4.heap.size, 0, none⟩ = some (.int .i64 (b : Int)) ∧ V.cell? ⟨w4.heap.size, 1, none⟩ = some (.int .i64 (j : Int))) ∧ (V.cell? ⟨A, (j + 1) * 2, none⟩ = some (.int .i64 d1) ∧ V.cell? ⟨A, (j + 1) * 2 + 1, none⟩ = some (.int .i64 d2)) ∧ V.cell? ⟨b2, o2 + j * 5 + 3, none⟩ = some (.int .i64 i2.c) ∧ V.cell? ⟨bm, 0, none⟩ = some (.slice pa p.length pc) ∧ Hid (Chg [] (w4.alloc (.cells #[.int .i64 (b : Int), .int .i64 (j : Int)] 117)) V)) (World.drew (w4.alloc (.cells #[.int .i64 (b : Int), .int .i64 (j : Int)] 117))) := KEEP.out _ (Chg.refl _ _).drew
              refine wp_region_planT (fun V : World => (V.cell? ⟨w4.heap.size, 0, none⟩ = some (.int .i64 (b : Int)) ∧ V.cell? ⟨w4.heap.size, 1, none⟩ = some (.int .i64 (j : Int))) ∧ (V.cell? ⟨A, (j + 1) * 2, none⟩ = some (.int .i64 d1) ∧ V.cell? ⟨A, (j + 1) * 2 + 1, none⟩ = some (.int .i64 d2)) ∧ V.cell? ⟨b2, o2 + j * 5 + 3, none⟩ = some (.int .i64 i2.c) ∧ V.cell? ⟨bm, 0, none⟩ = some (.slice pa p.length pc) ∧ Hid (Chg [] (w4.alloc (.cells #[.int .i64 (b : Int), .int .i64 (j : Int)] 117)) V)) 23 [(0, true, some 57), (1, true, some 58), (2, true, some 59), (3, true, some 60), (4, true, some 61), (6, true, some 63), (7, true, some 64), (8, true, some 65), (9, true, some 66), (10, true, some 67), (11, true, some 68), (12, true, some 69), (13, true, some 70), (14, true, some 71), (15, true, some 72), (16, true, some 73), (17, true, some 74), (18, true, some 75), (19, true, some 76), (20, true, some 77), (5, false, some 62), (21, false, some 78), (22, true, some 79)] (by kernel_rfl) (by kernel_rfl) (by kernel_rfl) (by kernel_rfl) (by kernel_rfl) (fun d c a v w h => by cases d <;> exact h) hHeld ?_
              repeat (first
                | (refine planT_read (v := ?_) rfl rfl ?_ ?_ ?_; rotate_left; (focus rfl); (focus (intro u hSw; (try dsimp only at hSw); obtain ⟨⟨u0, u1⟩, ⟨u2, u3⟩, u4, u5, -⟩ := hSw; go_simp; (try with_reducible rfl))); (try simp only [Act.put, List.setIfInBounds_toArray, List.set_cons_zero, List.set_cons_succ]))
                | (refine planT_skip rfl rfl ?_ ?_; (focus rfl); (try simp only [Act.put, List.setIfInBounds_toArray, List.set_cons_zero, List.set_cons_succ]))
                | (refine planT_do rfl rfl ?_ (fun K hK => ?_); (focus rfl); go_simp; (try go_wp2_with (first | (go_at_call 152; refine (HPT.out _ (HJA.out.fresh hHeld.2.2.2.2.out)).mono ?_; rintro r w5 ⟨rfl, hc5⟩; have HCX := Lib.hid hc5; clear hc5) | (go_at_call 170; refine (HRD.out _ (HJA.out.fresh hHeld.2.2.2.2.out)).mono ?_; rintro r w6 ⟨rfl, hc5⟩; have HCX := Lib.hid hc5; clear hc5))); refine hK.out _ _ ?_ (fun hHeld2 => ?_); (focus exact KEEP.out _ (hHeld.2.2.2.2.out.trans HCX.out)); clear hK K hHeld; have hHeld := hHeld2; clear hHeld2; (try simp only [Act.put, List.setIfInBounds_toArray, List.set_cons_zero, List.set_cons_succ])))
              refine planT_last rfl rfl (fun K hK => ?_)
              have hV3 := HJA.out.fresh hHeld.2.2.2.2.out
              have HAT5 : Hid (AtB w6 A l) := Lib.hid (Blk.keep HAA4.out hHeld.2.2.2.2.out (by simp))
              obtain ⟨⟨z0, z1⟩, f0, f1⟩ := HAT5.out.at HDQ.out
              go_simp
              refine hK.out _ _ ?_
              have HAT6 : Hid (AtB ((w6.setCell ⟨A, b * 2, none⟩ (.int .i64 x1)).setCell ⟨A, b * 2 + 1, none⟩ (.int .i64 x2)) A (l.set b (x1, x2))) := Lib.hid (HAT5.out.put b x1 x2)
              have HJ6 : Hid (Chg [A] w3 ((w6.setCell ⟨A, b * 2, none⟩ (.int .i64 x1)).setCell ⟨A, b * 2 + 1, none⟩ (.int .i64 x2))) := Lib.hid ((hV3.setCell (.inl (by simp)) _).setCell (.inl (by simp)) _)
              clear hK K hHeld hV3 KEEP z0 z1 f0 f1
              go_wp2_with fail
              go_roundw
              case rel => exact ⟨k + 1, by have := HQ.out; omega, by have := HHE.out; refine congrArg (Value.int IntKind.i64) ?_; push_cast; omega, by rw [HUP.out]; exact HAT6, HJ6⟩
              case measure => (simp [intOf]) <;> omega
        · obtain rfl : k = e + 1 - a := by omega
          have mq : ¬ (a : Int) ≤ (e : Int) - ((e + 1 - a : Nat) : Int) := by have := HB.out; omega
          obtain ⟨⟨x1, x2⟩, hx⟩ : ∃ d, (atM p ws (partM p ws n) (a, e) (e + 1 - a))[a]? = some d := ⟨_, List.getElem?_eq_getElem (by rw [atM_len]; have := HB.out; omega)⟩
          obtain ⟨⟨z0, z1⟩, -⟩ := HAT.out.at hx
          simp only at z0 z1
          have gq := at_index A N a (by have := HB.out; omega)
          have HRES : Hid (partM p ws (n + 1) ((a : Int), (e : Int)) = (x1, x2)) := Lib.hid (by
            unfold partM
            rw [show ((e : Int) + 1 - (a : Int)).toNat = e + 1 - a by have := HB.out; omega]
            exact wayAt_get hx)
          clear hlk hk hx
          go_wp2_with (refine Go.Proofs.YtkedegbpkkgeaaaGreat.blk.wpList_store_blk rfl 146 (.tmp 4) (.tmp 84) rfl (W.heap.size + 1) #[.int .i64 x1, .int .i64 x2] rfl rfl (HBR.out.keep HJ.out (by have := HAA.out; simp; omega)) szWay rfl (by simp [Value.oneCell']) ?_; intro w9 hb9 hc9; have HB9 := Lib.hid hb9; have HC9 := Lib.hid hc9; clear hb9 hc9)
          refine bodyPost_ret (results_row_one rfl _ _ (W.heap.size + 1) 146 _ (0, 0) _ rfl HB9.out Tryz.underlying146 rfl szWay) rfl ?_
          exact ⟨by rw [HRES.out]; rfl, (HWV.out wr HJ.out).into HC9.out (fun y hy => .inr (by simp at hy; omega))⟩
theorem part_any (bm : Nat) (pa : Option Addr) (pc : Nat) (wa : Option Addr) (wc : Nat) (la : Option Addr) (lc : Nat) (p : List Ins) (ws : List Int) : ∀ (n a e : Nat), a ≤ e → e < p.length → e - a < n → ∀ W, Ms W bm pa pc wa wc la lc p ws → Calls Tryz.prog 152 #[.pointer (some ⟨bm, 0, none⟩), .agg #[.int .i64 (a : Int), .int .i64 (e : Int)]] W fun r W' => r = .returned (wy (partM p ws n (a, e))) ∧ Chg [] W W'
  | 0, a, e, _, _, h, _, _ => absurd h (by omega)
  | n + 1, a, e, h1, h2, h3, W, hm => part_step bm pa pc wa wc la lc p ws n (part_any bm pa pc wa wc la lc p ws n) a e h1 h2 h3 W hm
end Go.Proofs.YtkedegbpkkgeaaaGreat.tf
/- TopFits: cost: Most. -/
namespace Go.Proofs.YtkedegbpkkgeaaaGreat.tf
open Go Go.RowKit Go.Proofs.YtkedegbpkkgeaaaGreat.kit Go.Proofs.YtkedegbpkkgeaaaGreat.obj Go.Proofs.YtkedegbpkkgeaaaGreat.mem Go.Proofs.YtkedegbpkkgeaaaGreat.lay Go.Proofs.YtkedegbpkkgeaaaGreat.isa
set_option linter.unusedVariables false
set_option linter.unusedSimpArgs false
set_option maxRecDepth 20000

set_option maxHeartbeats 4000000 in
theorem whole_any (pa : Option Addr) (pc : Nat) (wa : Option Addr) (wc : Nat) (p : List Ins) (ws : List Int) (W : World) (hr : ReadsC W (.slice pa p.length pc) p) (hw : ReadsN W (.slice wa p.length wc) ws) (hl : ws.length = p.length) (hf : FineP p) :
    Calls Tryz.prog 125 #[.slice pa p.length pc, .slice wa p.length wc, .func (.func 126) #[] #[]] W fun r W' => r = .returned (.tuple #[.int .i64 (mostM p ws), .int .i64 0]) ∧ Chg [] W W' := by
  obtain ⟨e, he⟩ : ∃ e, p.length - 1 = e := ⟨_, rfl⟩
  have hlen := hf.len
  have kl : IntKind.i64.wrap ((p.length : Int) - 1) = (e : Int) := by rw [IntKind.wrap_i64]; omega
  have HCK := Lib.hid (fCheck_any pa pc p W hr hf)
  have HLP := Lib.hid (fun V (hV : Chg [] W V) => fLoops_any pa pc p V (hr.chg hV) hf)
  have HR := Lib.hid hr
  have HW := Lib.hid hw
  have HF := Lib.hid hf
  have HL := Lib.hid hl
  have HE : Hid (p.length - 1 = e ∧ 1 ≤ p.length) := Lib.hid ⟨he, hlen.1⟩
  obtain ⟨⟨x1, x2⟩, hx⟩ : ∃ x, partM p ws p.length ((0 : Nat), (e : Int)) = x := ⟨_, rfl⟩
  have HRES : Hid (mostM p ws = x2) := Lib.hid (by
    unfold mostM
    rw [show (p.length : Int) - 1 = (e : Int) by omega]
    have h := congrArg Prod.snd hx
    exact h)
  have HX := Lib.hid hx
  clear hr hw hf hl he hlen hx
  go_enter Tryz.func125, Tryz.ntmps125
  go_upto_region 7 with (first
    | (go_at_call 119; refine HCK.out.mono ?_; rintro r w1 ⟨rfl, hc1⟩; have HC1 := Lib.hid hc1; clear hc1)
    | (go_at_call 151; refine (HLP.out _ HC1.out).mono ?_; rintro r w2 ⟨la, lc, rfl, hrl, hc2⟩; have HC2 := Lib.hid (HC1.out.trans hc2); have HRL := Lib.hid hrl; clear hc2 hrl))
  have HMS : Hid (Ms (w2.alloc (.cells #[.slice pa p.length pc, .slice wa p.length wc, .slice la (loopsF 0 p).length lc, .func (.func 126) #[] #[]] 144)) w2.heap.size pa pc wa wc la lc p ws) := Lib.hid (by
    have hb := Blk.new w2 #[.slice pa p.length pc, .slice wa p.length wc, .slice la (loopsF 0 p).length lc, .func (.func 126) #[] #[]] 144
    have hc := (Chg.refl [] w2).alloc (.cells #[.slice pa p.length pc, .slice wa p.length wc, .slice la (loopsF 0 p).length lc, .func (.func 126) #[] #[]] 144)
    exact ⟨hb.cell rfl, hb.cell rfl, hb.cell rfl, hb.cell rfl, HR.out.chg (HC2.out.trans hc), HW.out.chg (HC2.out.trans hc), HRL.out.chg hc, HF.out, HL.out⟩)
  have HPT : Hid (Calls Tryz.prog 152 #[.pointer (some ⟨w2.heap.size, 0, none⟩), .agg #[.int .i64 0, .int .i64 (e : Int)]] (w2.alloc (.cells #[.slice pa p.length pc, .slice wa p.length wc, .slice la (loopsF 0 p).length lc, .func (.func 126) #[] #[]] 144)) fun r W' => r = .returned (.agg #[.int .i64 x1, .int .i64 x2]) ∧ Chg [] (w2.alloc (.cells #[.slice pa p.length pc, .slice wa p.length wc, .slice la (loopsF 0 p).length lc, .func (.func 126) #[] #[]] 144)) W') := Lib.hid (by
    have h := part_any w2.heap.size pa pc wa wc la lc p ws p.length 0 e (Nat.zero_le _) (by have := HE.out; omega) (by have := HE.out; omega) _ HMS.out
    rw [HX.out] at h
    exact h)
  have hfd : ∀ u, (Instr.field 146 (.agg #[.int .i64 x1, .int .i64 x2]) 1).run Tryz.prog u = .ok (.int .i64 x2) u := fun u => by simp [Instr.field, go_sem, asAgg] <;> try rfl
  go_wp2_with (go_at_call 152; refine HPT.out.mono ?_; rintro r w3 ⟨rfl, hc3⟩; have HC3 := Lib.hid ((HC2.out.alloc _).trans hc3); clear hc3)
  go_ret2
  exact ⟨by rw [HRES.out]; rfl, HC3.out⟩
theorem most_any (pa : Option Addr) (pc : Nat) (wa : Option Addr) (wc : Nat) (p : List Ins) (ws : List Int) (W : World) (hr : ReadsC W (.slice pa p.length pc) p) (hw : ReadsN W (.slice wa p.length wc) ws) (hl : ws.length = p.length) (hf : FineP p) :
    Calls Tryz.prog 104 #[.slice pa p.length pc, .slice wa p.length wc] W fun r W' => r = .returned (.tuple #[.int .i64 (mostM p ws), .int .i64 0]) ∧ Chg [] W W' := by
  have HX := Lib.hid (whole_any pa pc wa wc p ws W hr hw hl hf)
  clear hr hw hl hf
  go_enter Tryz.func104, Tryz.ntmps104
  go_wp2_with (go_at_call 125; refine HX.out.mono ?_; rintro r w3 ⟨rfl, hc3⟩; have HC3 := Lib.hid hc3; clear hc3)
  go_ret2
  exact ⟨rfl, HC3.out⟩
end Go.Proofs.YtkedegbpkkgeaaaGreat.tf
/- TopFits: rows of numbers searched; what operations a kind has. -/
namespace Go.Proofs.YtkedegbpkkgeaaaGreat.tf
open Go Go.RowKit Go.Proofs.YtkedegbpkkgeaaaGreat.kit Go.Proofs.YtkedegbpkkgeaaaGreat.obj Go.Proofs.YtkedegbpkkgeaaaGreat.mem Go.Proofs.YtkedegbpkkgeaaaGreat.lay Go.Proofs.YtkedegbpkkgeaaaGreat.isa
set_option linter.unusedVariables false
set_option linter.unusedSimpArgs false
set_option maxRecDepth 20000

theorem idxM_at {l : List Int} {x : Int} {j : Nat} (h : l[j]? = some x) (hn : x ∉ l.take j) : idxM l x = j := by
  have hj := List.getElem?_eq_some_iff.1 h
  have : l.findIdx? (· = x) = some j := by
    rw [List.findIdx?_eq_some_iff_getElem]
    refine ⟨hj.1, by simpa using hj.2, fun i hi => ?_⟩
    simp only [decide_eq_true_eq]
    intro e
    refine hn ?_
    rw [← e]
    have := hj.1
    exact List.mem_take_iff_getElem.2 ⟨i, by omega, rfl⟩
  unfold idxM
  rw [this]
theorem idxM_no {l : List Int} {x : Int} (hn : x ∉ l) : idxM l x = -1 := by
  have : l.findIdx? (· = x) = none := by
    rw [List.findIdx?_eq_none_iff]
    intro y hy
    simp only [decide_eq_false_iff_not]
    rintro rfl
    exact hn hy
  unfold idxM
  rw [this]
theorem idxM_mem (l : List Int) (x : Int) : 0 ≤ idxM l x ↔ x ∈ l := by
  by_cases h : x ∈ l
  · refine ⟨fun _ => h, fun _ => ?_⟩
    unfold idxM
    cases hf : l.findIdx? (· = x) with
    | none =>
      rw [List.findIdx?_eq_none_iff] at hf
      have := hf x h
      simp at this
    | some k => simp
  · rw [idxM_no h]
    exact ⟨fun h2 => absurd h2 (by decide), fun h2 => absurd h2 h⟩
set_option maxHeartbeats 2000000 in
theorem index_any (sv : Value) (l : List Int) (x : Int) (W : World) (hr : ReadsN W sv l) (hl : l.length ≤ 1000) :
    Calls Tryz.prog 17 #[sv, .int .i64 x] W fun e W' => e = .returned (.int .i64 (idxM l x)) ∧ Chg [] W W' := by
  obtain ⟨sa, sc, rfl, -⟩ := reads_slice hr
  obtain ⟨-, b1, o1, hx1, hc1⟩ := ints_at hr
  have HX1 := Lib.hid hx1
  have HC1 := Lib.hid hc1
  have HLEN := Lib.hid hl
  obtain ⟨R, hR⟩ : ∃ R, idxM l x = R := ⟨_, rfl⟩
  have HR := Lib.hid hR
  rw [hR]
  clear hx1 hc1 hl hr hR
  go_enter Tryz.func17, Tryz.ntmps17
  go_wp2_with fail
  go_loopw [8] (fun p wr => ∃ j : Nat, j ≤ l.length ∧ p = .int .i64 j ∧ Hid (x ∉ l.take j) ∧ Hid (Chg [] W wr)) (fun p _ => l.length - (intOf p).toNat)
  case atStart => exact ⟨0, Nat.zero_le _, rfl, Lib.hid (by simp), Lib.hid (Chg.refl _ _)⟩
  case round =>
    obtain ⟨j, hj, rfl, HG, HJ⟩ := hrel
    by_cases hlt : j < l.length
    · have HLT := Lib.hid hlt
      have mj : (j : Int) < (l.length : Int) := by omega
      have g1 := HX1.out j hlt
      obtain ⟨y, htk⟩ : ∃ t, l[j]? = some t := ⟨_, List.getElem?_eq_getElem hlt⟩
      have q0 := HC1.out wr HJ.out j _ htk
      have k8 : IntKind.i64.wrap ((j : Int) + 1) = (j : Int) + 1 := by rw [IntKind.wrap_i64]; have := HLEN.out; omega
      have HK := Lib.hid htk
      clear htk hj hlt
      by_cases c1 : x = y
      · subst c1
        have HRV : Hid (R = (j : Int)) := Lib.hid (by rw [← HR.out, idxM_at HK.out HG.out])
        go_wp2_with fail
        go_ret
        exact ⟨by rw [HRV.out]; rfl, HJ.out⟩
      · have d1 : (x == y) = false := by simpa using c1
        have HN := Lib.hid c1
        clear c1
        go_wp2_with fail
        have hltj := HLT.out
        go_roundw
        case rel => exact ⟨j + 1, by omega, by go_num, Lib.hid (by rw [take_snoc HK.out]; intro hm; rcases List.mem_append.1 hm with hm | hm; exact HG.out hm; simp at hm; exact HN.out hm), HJ⟩
        case measure => simp [intOf]; omega
    · obtain rfl : l.length = j := by omega
      clear hlt hj
      rw [List.take_length] at HG
      have HRV : Hid (R = -1) := Lib.hid (by rw [← HR.out, idxM_no HG.out])
      go_wp2_with fail
      go_ret
      exact ⟨by rw [HRV.out]; rfl, HJ.out⟩
theorem contains_any (sv : Value) (l : List Int) (x : Int) (W : World) (hr : ReadsN W sv l) (hl : l.length ≤ 1000) :
    Calls Tryz.prog 103 #[sv, .int .i64 x] W fun e W' => e = .returned (.bool (decide (x ∈ l))) ∧ Chg [] W W' := by
  have HX := Lib.hid (index_any sv l x W hr hl)
  obtain ⟨R, hR⟩ : ∃ R, idxM l x = R := ⟨_, rfl⟩
  have HM : Hid (0 ≤ R ↔ x ∈ l) := Lib.hid (by rw [← hR]; exact idxM_mem l x)
  rw [hR] at HX
  clear hr hl hR
  go_enter Tryz.func103, Tryz.ntmps103
  go_wp2_with (go_at_call 17; refine HX.out.mono ?_; rintro e w1 ⟨rfl, hc1⟩; have HC1 := Lib.hid hc1; clear hc1)
  go_ret
  exact ⟨by refine ret_bool ?_; rw [Bool.eq_iff_iff]; simpa using HM.out, HC1.out⟩
theorem ops_any (k : Int) (W : World) : Calls Tryz.prog 72 #[.int .i64 k] W fun e W' => e = .returned (.tuple #[.int .i64 (if kindB k then writesI k else 0), .int .i64 (if kindB k then readsI k else 0), .bool (kindB k)]) ∧ W = W' := by
  have hk : k = 1 ∨ k = 2 ∨ k = 3 ∨ k = 4 ∨ k = 5 ∨ k = 6 ∨ (k ≠ 1 ∧ k ≠ 2 ∧ k ≠ 3 ∧ k ≠ 4 ∧ k ≠ 5 ∧ k ≠ 6) := by omega
  rcases hk with rfl | rfl | rfl | rfl | rfl | rfl | ⟨n1, n2, n3, n4, n5, n6⟩
  iterate 6
    · go_enter Tryz.func72, Tryz.ntmps72
      go_wp2
      go_ret3
      exact ⟨by rfl, rfl⟩
  · have hb : kindB k = false := by simp only [kindB, decide_eq_false_iff_not]; omega
    rw [hb]
    have d1 : (k == 1) = false := by simpa using n1
    have d2 : (k == 2) = false := by simpa using n2
    have d3 : (k == 3) = false := by simpa using n3
    have d4 : (k == 4) = false := by simpa using n4
    have d5 : (k == 5) = false := by simpa using n5
    have d6 : (k == 6) = false := by simpa using n6
    clear n1 n2 n3 n4 n5 n6 hb
    go_enter Tryz.func72, Tryz.ntmps72
    go_wp2
    go_ret3
    exact ⟨by rfl, rfl⟩
theorem oReader_any (k w s c st : Int) (ia : Option Addr) (il ic : Nat) (wri : Int) (ra : Option Addr) (rl rc : Nat) (rds : List Int) (t : Int) (W : World) (hr : ReadsN W (.slice ra rl rc) rds) (hl : rds.length ≤ 1000) :
    Calls Tryz.prog 73 #[.agg #[.int .i64 k, .int .i64 w, .int .i64 s, .int .i64 c, .int .u32 st, .slice ia il ic, .int .i64 wri, .slice ra rl rc], .int .i64 t] W fun e W' => e = .returned (.tuple #[.int .i64 (max (idxM rds t) 0), .bool (decide (t ∈ rds))]) ∧ Chg [] W W' := by
  have HC : Hid (Chg [] W (W.alloc (.cells #[.int .i64 k, .int .i64 w, .int .i64 s, .int .i64 c, .int .u32 st, .slice ia il ic, .int .i64 wri, .slice ra rl rc] 46))) := Lib.hid ((Chg.refl [] W).alloc _)
  have HX := Lib.hid (index_any _ rds t _ (ReadsN.chg hr HC.out) hl)
  have hm := idxM_mem rds t
  obtain ⟨R, hR⟩ : ∃ R, idxM rds t = R := ⟨_, rfl⟩
  rw [hR] at HX hm ⊢
  by_cases hmem : t ∈ rds
  · have m0 : 0 ≤ R := hm.2 hmem
    rw [show max R 0 = R by omega, decide_eq_true hmem]
    clear hr hl hR hm hmem
    go_enter Tryz.func73, Tryz.ntmps73
    go_wp2_with (go_at_call 17; refine HX.out.mono ?_; rintro e w1 ⟨rfl, hc1⟩; have HC1 := Lib.hid (HC.out.trans hc1); clear hc1)
    all_goals (go_ret2; exact ⟨by first | rfl | (have : R = 0 := by omega); (subst this; rfl), HC1.out⟩)
  · have m0 : ¬ 0 ≤ R := fun h => hmem (hm.1 h)
    rw [show max R 0 = 0 by omega, decide_eq_false hmem]
    clear hr hl hR hm hmem
    go_enter Tryz.func73, Tryz.ntmps73
    go_wp2_with (go_at_call 17; refine HX.out.mono ?_; rintro e w1 ⟨rfl, hc1⟩; have HC1 := Lib.hid (HC.out.trans hc1); clear hc1)
    all_goals (go_ret2; exact ⟨by first | rfl | (simp; omega) | simp, HC1.out⟩)
end Go.Proofs.YtkedegbpkkgeaaaGreat.tf
