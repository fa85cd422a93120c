import Derived.Test.YtkedegbpkkgeaaaGreatTop20
import Derived.Test.YtkedegbpkkgeaaaGreatIter
import Derived.RegionIn
import Derived.BigRegionIn
import Derived.Shelf.Abstract
import Derived.Shelf.RegionOpen
import Derived.Test.YtkedegbpkkgeaaaGreatTop16
import Derived.RegionTactic
import Derived.ChangeAlike
import Derived.BigRegion
import Derived.Deep.CutRange
import Derived.Deep.CutBlock
import Derived.Test.YtkedegbpkkgeaaaGreatTop10
import Derived.Test.YtkedegbpkkgeaaaGreatTop1
/- TopFits: rta: Response. -/
namespace Go.Proofs.YtkedegbpkkgeaaaGreat.tf
open Go Go.RowKit Go.Proofs.YtkedegbpkkgeaaaGreat.kit Go.Proofs.YtkedegbpkkgeaaaGreat.obj Go.Proofs.YtkedegbpkkgeaaaGreat.mem Go.Proofs.YtkedegbpkkgeaaaGreat.lay Go.Proofs.YtkedegbpkkgeaaaGreat.isa
set_option linter.unusedVariables false
set_option linter.unusedSimpArgs false
set_option maxRecDepth 20000

attribute [local go_sem] Oper.semAt_some
/-- between two rounds -/
def QO (W : World) (d : Int) (sb : Array Value) (i : Int) (pre : List (Int × Int)) (V : World) : Prop := (∀ y ∈ pre, ¬ d < y.1 ∧ y.1 ≠ y.2) ∧
  ((Blk V W.heap.size sb 25 ∧ Blk V (W.heap.size + 1) #[.int .i64 i] 3) ∧ Blk V (W.heap.size + 1 + 1) #[.int .i64 0] 3 ∧ Blk V (W.heap.size + 1 + 1 + 1) #[.int .i64 0] 34) ∧ Chg [] W V
/-- a round has left -/
def QX (W : World) (f : Int → Int) (d : Int) (N : Nat) (c : Code) (pre : List (Int × Int)) (V : World) : Prop := c = .ret ∧ ∃ x e, goR f d N 1 = (x, e) ∧
  (Blk V (W.heap.size + 1 + 1) #[.int .i64 x] 3 ∧ Blk V (W.heap.size + 1 + 1 + 1) #[.int .i64 e] 34) ∧ Chg [] W V
theorem QO.keep {W A B : World} {d : Int} {sb : Array Value} {i : Int} {pre : List (Int × Int)} {L : List Nat} (h : QO W d sb i pre A) (k : Chg L A B) (hL : ∀ y ∈ L, W.heap.size + 3 < y) : QO W d sb i pre B := by
  obtain ⟨h1, ⟨⟨h2, h3⟩, h4, h5⟩, h7⟩ := h
  refine ⟨h1, ⟨⟨h2.keep k (fun hn => ?_), h3.keep k (fun hn => ?_)⟩, h4.keep k (fun hn => ?_), h5.keep k (fun hn => ?_)⟩, h7.into k (fun y hy => .inr (by have := hL y hy; omega))⟩
  all_goals (have := hL _ hn; omega)
theorem QX.keep {W A B : World} {f : Int → Int} {d : Int} {N : Nat} {c : Code} {pre : List (Int × Int)} {L : List Nat} (h : QX W f d N c pre A) (k : Chg L A B) (hL : ∀ y ∈ L, W.heap.size + 3 < y) : QX W f d N c pre B := by
  obtain ⟨h0, x, e, h1, ⟨h4, h5⟩, h7⟩ := h
  refine ⟨h0, x, e, h1, ⟨h4.keep k (fun hn => ?_), h5.keep k (fun hn => ?_)⟩, h7.into k (fun y hy => .inr (by have := hL y hy; omega))⟩
  all_goals (have := hL _ hn; omega)
theorem resp_bad (ta : Option Addr) (tc : Nat) (oa : Option Addr) (oc : Nat) (ts : List DT) (os : List DO) (ca : Option Addr) (cl cc : Nat) (W : World) :
    Calls Tryz.prog 18 #[.agg #[.slice ta ts.length tc, .slice oa os.length oc], .int .i64 (-1), .slice ca cl cc] W fun e W' => e = .returned (.tuple #[.int .i64 0, .int .i64 1]) ∧ Chg [] W W' := by
  refine (callsIn_wide (n := 5)).1 ?_
  refine callsIn_of_wp_marks Tryz.func18 rfl trivial ?_ rfl
  simp only [Tryz.ntmps18, List.size_toArray, List.length_cons, List.length_nil, Nat.reduceAdd, Nat.reduceSub, Array.replicate_succ, Array.replicate_zero, List.push_toArray, List.append_toArray, List.nil_append, List.cons_append]
  obtain ⟨w4, hw4⟩ : ∃ y, ((((W.alloc (.cells #[.slice ta ts.length tc, .slice oa os.length oc] 25)).alloc (.cells #[.int .i64 (-1)] 3)).alloc (.cells #[.int .i64 0] 3)).alloc (.cells #[.int .i64 0] 34)) = y := ⟨_, rfl⟩
  have hc4 : Chg [] W w4 := by rw [← hw4]; exact ((((Chg.refl [] W).alloc _).alloc _).alloc _).alloc _
  have hbs : Blk w4 W.heap.size #[.slice ta ts.length tc, .slice oa os.length oc] 25 := by rw [← hw4]; exact (((Blk.new W _ _).alloc _).alloc _).alloc _
  have hbi : Blk w4 (W.heap.size + 1) #[.int .i64 (-1)] 3 := by
    rw [← hw4]
    have := ((Blk.new (W.alloc (.cells #[.slice ta ts.length tc, .slice oa os.length oc] 25)) #[.int .i64 (-1)] 3).alloc (.cells #[.int .i64 0] 3)).alloc (.cells #[.int .i64 0] 34)
    rwa [show (W.alloc (.cells #[.slice ta ts.length tc, .slice oa os.length oc] 25)).heap.size = W.heap.size + 1 by simp] at this
  have hb6 : Blk w4 (W.heap.size + 1 + 1) #[.int .i64 0] 3 := by
    rw [← hw4]
    have := (Blk.new ((W.alloc (.cells #[.slice ta ts.length tc, .slice oa os.length oc] 25)).alloc (.cells #[.int .i64 (-1)] 3)) #[.int .i64 0] 3).alloc (.cells #[.int .i64 0] 34)
    rwa [show ((W.alloc (.cells #[.slice ta ts.length tc, .slice oa os.length oc] 25)).alloc (.cells #[.int .i64 (-1)] 3)).heap.size = W.heap.size + 1 + 1 by simp] at this
  have hb7 : Blk w4 (W.heap.size + 1 + 1 + 1) #[.int .i64 0] 34 := by
    rw [← hw4]
    have := Blk.new (((W.alloc (.cells #[.slice ta ts.length tc, .slice oa os.length oc] 25)).alloc (.cells #[.int .i64 (-1)] 3)).alloc (.cells #[.int .i64 0] 3)) #[.int .i64 0] 34
    rwa [show (((W.alloc (.cells #[.slice ta ts.length tc, .slice oa os.length oc] 25)).alloc (.cells #[.int .i64 (-1)] 3)).alloc (.cells #[.int .i64 0] 3)).heap.size = W.heap.size + 1 + 1 + 1 by simp] at this
  have c1 : w4.cell? ⟨W.heap.size + 1, 0, none⟩ = some (.int .i64 (-1)) := hbi.cell rfl
  have c6 : w4.cell? ⟨W.heap.size + 1 + 1, 0, none⟩ = some (.int .i64 0) := hb6.cell rfl
  have c7 : w4.cell? ⟨W.heap.size + 1 + 1 + 1, 0, none⟩ = some (.int .i64 0) := hb7.cell rfl
  have f6 := hb6.free 0
  have f7 := hb7.free 0
  have HB6 := Lib.hid hb6
  have HB7 := Lib.hid hb7
  have HC4 := Lib.hid hc4
  clear hbs hbi hb6 hb7 hc4
  gi_wp2_with fail
  try rw [hw4]
  simp only [bodyPostM, LeavesInM]
  refine ⟨_, results_cells rfl _ _ (W.heap.size + 1 + 1) (.int .i64 0) (W.heap.size + 1 + 1 + 1) (.int .i64 1) rfl rfl (aggI _) (Blk.cell ((HB6.out.set 0 (.int .i64 0)).set_ne (b' := W.heap.size + 1 + 1 + 1) (by omega) _ _ _) rfl) (aggE _) (Blk.cell ((HB7.out.set_ne (b' := W.heap.size + 1 + 1) (by omega) _ _ _).set 0 (.int .i64 1)) rfl), ?_⟩
  exact ⟨rfl, (HC4.out.setCell (.inr (by simp; omega)) _).setCell (.inr (by simp; omega)) _⟩
set_option maxHeartbeats 8000000 in
theorem resp_any (ta : Option Addr) (tc : Nat) (oa : Option Addr) (oc : Nat) (ts : List DT) (os : List DO) (i : Nat) (ca : Option Addr) (cc : Nat) (cs : List Int) (W : World) (h : SysOK W ta tc oa oc ts os) (hi : i < ts.length) (hcr : ReadsN W (.slice ca cs.length cc) cs) (hcl : cs.length = ts.length) :
    Calls Tryz.prog 18 #[.agg #[.slice ta ts.length tc, .slice oa os.length oc], .int .i64 (i : Int), .slice ca cs.length cc] W fun e W' => e = .returned (.tuple #[.int .i64 (respM (sys ts os) i cs).1, .int .i64 (respM (sys ts os) i cs).2]) ∧ Chg [] W W' := by
  obtain ⟨d, hd⟩ : ∃ d, ts[i]? = some d := ⟨_, List.getElem?_eq_getElem hi⟩
  obtain ⟨-, b1, o1, hx1, hc1⟩ := tasks_at h.T
  have g1 := hx1 i hi
  obtain ⟨f, hf⟩ : ∃ f, (fun r => loadM (sys ts os) i r cs) = f := ⟨_, rfl⟩
  obtain ⟨N, hN⟩ : ∃ N : Nat, N = 10001 := ⟨_, rfl⟩
  obtain ⟨dl, hdl⟩ : ∃ x, d.t.deadline = x := ⟨_, rfl⟩
  have hgo : respM (sys ts os) i cs = goR f dl N 1 := by
    unfold respM
    rw [if_pos (by unfold inB; simp only [sys, List.length_map]; exact decide_eq_true ⟨by omega, by omega⟩), hf, hN, sys_t os hd, ← hdl]
    rfl
  have hfx : ∀ r, f r = loadM (sys ts os) i r cs := fun r => by rw [← hf]
  have hle : ∀ m, it f m 1 ≤ 9223372036854775807 := fun m => by
    cases m with
    | zero => show (1 : Int) ≤ _; decide
    | succ m => rw [it_succ, hfx]; exact Int.le_trans (load_le _ _ _ _) (by decide)
  have HLD := Lib.hid (fun m V (hV : Chg [] W V) => by
    have h := load_any ta tc oa oc ts os i (it f m 1) ca cc cs V (h.chg hV) hi (hle m) (hcr.chg hV) hcl
    rw [← hfx, ← it_succ f] at h
    exact h)
  have HQ4 : Hid (∀ V, Chg [] W V → V.cell? ⟨b1, o1 + i * 7 + 4, none⟩ = some (.int .i64 dl)) := Lib.hid (fun V hV => by have := (hc1 V hV i d hd).2.1; rwa [hdl] at this)
  have HGO := Lib.hid hgo
  have HNN := Lib.hid hN
  obtain ⟨cl, hcl2⟩ : ∃ n, cs.length = n := ⟨_, rfl⟩
  rw [hcl2] at HLD ⊢
  have n1 : ¬ (i : Int) < 0 := by omega
  have n2 : ¬ (ts.length : Int) ≤ (i : Int) := by omega
  rw [hgo]
  clear h hi hd hx1 hc1 hf hdl hgo hfx hle hcr hcl hcl2 hN HGO
  refine (callsIn_wide (n := 5)).1 ?_
  refine callsIn_of_wp_marks Tryz.func18 rfl trivial ?_ rfl
  simp only [Tryz.ntmps18, List.size_toArray, List.length_cons, List.length_nil, Nat.reduceAdd, Nat.reduceSub, Array.replicate_succ, Array.replicate_zero, List.push_toArray, List.append_toArray, List.nil_append, List.cons_append]
  obtain ⟨w4, hw4⟩ : ∃ y, ((((W.alloc (.cells #[.slice ta ts.length tc, .slice oa os.length oc] 25)).alloc (.cells #[.int .i64 (i : Int)] 3)).alloc (.cells #[.int .i64 0] 3)).alloc (.cells #[.int .i64 0] 34)) = y := ⟨_, rfl⟩
  have hc4 : Chg [] W w4 := by rw [← hw4]; exact ((((Chg.refl [] W).alloc _).alloc _).alloc _).alloc _
  have hbs : Blk w4 W.heap.size #[.slice ta ts.length tc, .slice oa os.length oc] 25 := by rw [← hw4]; exact (((Blk.new W _ _).alloc _).alloc _).alloc _
  have hbi : Blk w4 (W.heap.size + 1) #[.int .i64 (i : Int)] 3 := by
    rw [← hw4]
    have := ((Blk.new (W.alloc (.cells #[.slice ta ts.length tc, .slice oa os.length oc] 25)) #[.int .i64 (i : Int)] 3).alloc (.cells #[.int .i64 0] 3)).alloc (.cells #[.int .i64 0] 34)
    rwa [show (W.alloc (.cells #[.slice ta ts.length tc, .slice oa os.length oc] 25)).heap.size = W.heap.size + 1 by simp] at this
  have hb6 : Blk w4 (W.heap.size + 1 + 1) #[.int .i64 0] 3 := by
    rw [← hw4]
    have := (Blk.new ((W.alloc (.cells #[.slice ta ts.length tc, .slice oa os.length oc] 25)).alloc (.cells #[.int .i64 (i : Int)] 3)) #[.int .i64 0] 3).alloc (.cells #[.int .i64 0] 34)
    rwa [show ((W.alloc (.cells #[.slice ta ts.length tc, .slice oa os.length oc] 25)).alloc (.cells #[.int .i64 (i : Int)] 3)).heap.size = W.heap.size + 1 + 1 by simp] at this
  have hb7 : Blk w4 (W.heap.size + 1 + 1 + 1) #[.int .i64 0] 34 := by
    rw [← hw4]
    have := Blk.new (((W.alloc (.cells #[.slice ta ts.length tc, .slice oa os.length oc] 25)).alloc (.cells #[.int .i64 (i : Int)] 3)).alloc (.cells #[.int .i64 0] 3)) #[.int .i64 0] 34
    rwa [show (((W.alloc (.cells #[.slice ta ts.length tc, .slice oa os.length oc] 25)).alloc (.cells #[.int .i64 (i : Int)] 3)).alloc (.cells #[.int .i64 0] 3)).heap.size = W.heap.size + 1 + 1 + 1 by simp] at this
  have c0 : w4.cell? ⟨W.heap.size, 0, none⟩ = some (.slice ta ts.length tc) := hbs.cell rfl
  have c01 : w4.cell? ⟨W.heap.size, 1, none⟩ = some (.slice oa os.length oc) := hbs.cell rfl
  have c1 : w4.cell? ⟨W.heap.size + 1, 0, none⟩ = some (.int .i64 (i : Int)) := hbi.cell rfl
  gi_wp2_with (refine ⟨trivial, ?_⟩; gi_at_call 41; refine (callsIn_wide.2 (trounds_any ta tc oa oc ts os _ ca cl cc _)).mono ?_; rintro e w' ⟨rfl, rfl⟩)
  obtain ⟨w0, hw0⟩ : ∃ y, ((w4.alloc (.cells #[.slice ta ts.length tc, .slice oa os.length oc] 25)).alloc (.cells #[.int .i64 (i : Int)] 3)).alloc (.cells #[.slice ca cl cc] 33) = y := ⟨_, rfl⟩
  have hsz4 : w4.heap.size = W.heap.size + 4 := by rw [← hw4]; simp
  have hsz : w0.heap.size = W.heap.size + 7 := by rw [← hw0]; simp [hsz4]
  have hk4 : Chg [] w4 w0 := by rw [← hw0]; exact (((Chg.refl [] _).alloc _).alloc _).alloc _
  have hc0 : Chg [] W w0 := hc4.trans hk4
  have hx0 : Blk w0 w4.heap.size #[.slice ta ts.length tc, .slice oa os.length oc] 25 := by rw [← hw0]; exact ((Blk.new w4 _ _).alloc _).alloc _
  have hx1 : Blk w0 (w4.heap.size + 1) #[.int .i64 (i : Int)] 3 := by
    rw [← hw0]
    have := (Blk.new (w4.alloc (.cells #[.slice ta ts.length tc, .slice oa os.length oc] 25)) #[.int .i64 (i : Int)] 3).alloc (.cells #[.slice ca cl cc] 33)
    rwa [show (w4.alloc (.cells #[.slice ta ts.length tc, .slice oa os.length oc] 25)).heap.size = w4.heap.size + 1 by simp] at this
  have hx2 : Blk w0 (w4.heap.size + 1 + 1) #[.slice ca cl cc] 33 := by
    rw [← hw0]
    have := Blk.new ((w4.alloc (.cells #[.slice ta ts.length tc, .slice oa os.length oc] 25)).alloc (.cells #[.int .i64 (i : Int)] 3)) #[.slice ca cl cc] 33
    rwa [show ((w4.alloc (.cells #[.slice ta ts.length tc, .slice oa os.length oc] 25)).alloc (.cells #[.int .i64 (i : Int)] 3)).heap.size = w4.heap.size + 1 + 1 by simp] at this
  have hbs := hbs.keep hk4 (by simp)
  have hbi := hbi.keep hk4 (by simp)
  have hb6 := hb6.keep hk4 (by simp)
  have hb7 := hb7.keep hk4 (by simp)
  rw [hw0]
  clear hw0 hw4 c0 c01 c1 hk4 hc4
  refine wpIn_rangeFunc_chg (α := Int × Int) rfl (by omega) (gf := 77) (lb := #[.pointer (some ⟨w4.heap.size, 0, none⟩), .pointer (some ⟨w4.heap.size + 1, 0, none⟩), .pointer (some ⟨w4.heap.size + 1 + 1, 0, none⟩)]) rfl trivial (Go.Proofs.enters_of Tryz.func77 (by kernel_rfl) rfl)
    (rounds1_ok 4 (by omega) w4.heap.size (w4.heap.size + 1) (w4.heap.size + 1 + 1) ta tc oa oc ts os (i : Int) ca cl cc (fun k => it f k 1) N w0 HNN.out ⟨hx0.cell rfl, hx0.cell rfl⟩ (hx1.cell rfl) (hx2.cell rfl) rfl (fun m V hV => HLD.out m V (hc0.trans hV))) (fun b hb => by simp at hb)
    (fun A B o' r hl hk => ⟨⟨hk.1.1, hk.1.2.1, hk.1.2.2⟩, by simpa [World.putObj] using hk.2.1, fun k hkk => by rw [World.putObj_heap_other (by omega)]; exact hk.2.2 k hkk⟩) (fun _ => rfl)
    (QO W dl #[.slice ta ts.length tc, .slice oa os.length oc] (i : Int)) (QX W f dl N) ?hI ?hIx ?h0 ?hround ?hdone ?hstop
  case hI => exact fun pre A B r h _ k => h.keep k (by simp; omega)
  case hIx => exact fun c pre A B r h _ k => h.keep k (by simp; omega)
  case h0 => exact fun V k => ⟨by simp, ⟨⟨hbs.keep k (by simp), hbi.keep k (by simp)⟩, hb6.keep k (by simp), hb7.keep k (by simp)⟩, hc0.trans k⟩
  case hround =>
    rintro pre ⟨r1, r2⟩ V r hPO hR hD hl
    obtain ⟨n, hgo, hr2⟩ := rd_stop hR hPO.1
    simp only at hgo hr2
    have HGO := Lib.hid hgo
    have HR2 := Lib.hid hr2
    clear hgo hr2
    unfold rdE
    gi_wp2
    have hlt : w0.heap.size + 1 < V.heap.size := (Array.getElem?_eq_some_iff.1 hl).1
    obtain ⟨r', hr'⟩ : ∃ r', ({ r with state := .busy } : Loop) = r' := ⟨_, rfl⟩
    rw [hr']
    obtain ⟨V1, hV1⟩ : ∃ V1, V.putObj (w0.heap.size + 1) (.loop r') = V1 := ⟨_, rfl⟩
    rw [hV1]
    refine ⟨hl, ?_⟩
    have hcV : Chg [w0.heap.size + 1] V V1 := by rw [← hV1]; exact (Chg.refl [w0.heap.size + 1] V).putObj hl (.inl (by simp)) _
    have hPO1 := hPO.keep hcV (by simp; omega)
    have hl1 : V1.heap[w0.heap.size + 1]? = some (.loop r') := by rw [← hV1]; exact World.putObj_heap_same hlt
    have hD1 : V1.heap[w0.heap.size]? = some (.deferred (some [])) := hcV.heap hD (by simp)
    have hKP : KpC w0.heap.size V V1 := KpC.of hcV (by omega) (by simp)
    obtain ⟨hpre, ⟨⟨h2, h3⟩, h4, h5⟩, hcw⟩ := hPO1
    have j0 : V1.cell? ⟨W.heap.size, 0, none⟩ = some (.slice ta ts.length tc) := h2.cell rfl
    have j1 : V1.cell? ⟨W.heap.size + 1, 0, none⟩ = some (.int .i64 (i : Int)) := h3.cell rfl
    have q4 := HQ4.out V1 hcw
    have FAIL : Hid (¬ dl < r1 ∧ r1 ≠ r2 → (V1.heap[w0.heap.size]? = some (.deferred (some [])) ∧ V1.heap[w0.heap.size + 1]? = some (.loop r')) ∧ KpC w0.heap.size V V1 ∧ QO W dl #[.slice ta ts.length tc, .slice oa os.length oc] (i : Int) (pre ++ [(r1, r2)]) V1) := Lib.hid (fun h =>
      ⟨⟨hD1, hl1⟩, hKP, fun y hy => by
        rcases List.mem_append.1 hy with hy | hy
        · exact hpre y hy
        · simp at hy; subst hy; exact h, ⟨⟨h2, h3⟩, h4, h5⟩, hcw⟩)
    have DONE : Hid (∀ x e, goR f dl N 1 = (x, e) → chgPost w0.heap.size r' (KpC w0.heap.size) (QO W dl #[.slice ta ts.length tc, .slice oa os.length oc] (i : Int)) (QX W f dl N) (pre ++ [(r1, r2)]) V .ret { tmps := #[], defers := [] } ((V1.setCell ⟨W.heap.size + 1 + 1, 0, none⟩ (.int .i64 x)).setCell ⟨W.heap.size + 1 + 1 + 1, 0, none⟩ (.int .i64 e))) := Lib.hid (fun x e hxe => by
      have hk : Chg [W.heap.size + 1 + 1, W.heap.size + 1 + 1 + 1] V1 ((V1.setCell ⟨W.heap.size + 1 + 1, 0, none⟩ (.int .i64 x)).setCell ⟨W.heap.size + 1 + 1 + 1, 0, none⟩ (.int .i64 e)) := ((Chg.refl _ V1).setCell (.inl (by simp)) _).setCell (.inl (by simp)) _
      exact ⟨⟨hk.heap hD1 (by simp; omega), hk.heap hl1 (by simp; omega)⟩, rfl, x, e, hxe, ⟨(h4.set 0 _).set_ne (b' := W.heap.size + 1 + 1 + 1) (by omega) _ _ _, (h5.set_ne (b' := W.heap.size + 1 + 1) (by omega) _ _ _).set 0 _⟩, hcw.into hk (by simp; omega)⟩)
    have g6 : V1.cell? ⟨W.heap.size + 1 + 1, 0, none⟩ = some (.int .i64 0) := h4.cell rfl
    have f6 := h4.free 0
    have g7 : V1.cell? ⟨W.heap.size + 1 + 1 + 1, 0, none⟩ = some (.int .i64 0) := h5.cell rfl
    have f7 := h5.free 0
    clear hpre hR h4 h5 hcw hD1 hl1 hPO hD hl hV1 hr' hcV hKP h2 h3 hlt hbs hbi hb6 hb7 hx0 hx1 hx2 hc0 hsz hsz4
    by_cases c1 : dl < r1
    · have HX := Lib.hid (DONE.out 0 13 (by rw [HGO.out]; show (if dl < r1 then (0, 13) else _) = _; rw [if_pos c1]))
      clear FAIL
      gi_wp2
      all_goals exact HX.out
    · by_cases c2 : r1 = r2
      · have HX := Lib.hid (DONE.out r1 0 (by rw [HGO.out]; show (if dl < r1 then (0, 13) else if r1 = f r1 then (r1, 0) else _) = _; rw [if_neg c1, if_pos (by rw [← HR2.out]; exact c2)]))
        subst c2
        clear FAIL
        gi_wp2
        all_goals exact HX.out
      · have d2 : (r1 == r2) = false := beq_eq_false_iff_ne.2 c2
        have HF := Lib.hid (FAIL.out ⟨c1, c2⟩)
        clear FAIL DONE c2
        gi_wp2
        all_goals exact HF.out
  case hdone =>
    rintro xs V rfl ⟨hpre, ⟨-, h4, h5⟩, hcw⟩ hK
    have HON : Hid (goR f dl N 1 = (0, 14)) := Lib.hid (rd_done hpre)
    have g6 : V.cell? ⟨W.heap.size + 1 + 1, 0, none⟩ = some (.int .i64 0) := h4.cell rfl
    have f6 := h4.free 0
    have g7 : V.cell? ⟨W.heap.size + 1 + 1 + 1, 0, none⟩ = some (.int .i64 0) := h5.cell rfl
    have f7 := h5.free 0
    have H4 := Lib.hid h4
    have H5 := Lib.hid h5
    have HCW := Lib.hid hcw
    have HK := Lib.hid hK
    have HSZ := Lib.hid hsz
    clear hpre h4 h5 hcw hK hbs hbi hb6 hb7 hx0 hx1 hx2 hc0 hsz hsz4
    gi_wp2
    have hz := HSZ.out
    have hk : Chg [W.heap.size + 1 + 1, W.heap.size + 1 + 1 + 1] V ((V.setCell ⟨W.heap.size + 1 + 1, 0, none⟩ (.int .i64 0)).setCell ⟨W.heap.size + 1 + 1 + 1, 0, none⟩ (.int .i64 14)) := ((Chg.refl _ V).setCell (.inl (by simp)) _).setCell (.inl (by simp)) _
    have hK2 := hk.heap HK.out (by simp; omega)
    refine ⟨by simp, .inl ⟨_, _, rfl, run_takeDeferred hK2, ?_⟩⟩
    have hk2 := (Chg.refl [w0.heap.size] _).putObj hK2 (.inl (by simp)) (.deferred none)
    refine ⟨_, results_cells rfl _ _ (W.heap.size + 1 + 1) (.int .i64 0) (W.heap.size + 1 + 1 + 1) (.int .i64 14) rfl rfl (aggI _) (Blk.cell (Blk.keep ((H4.out.set 0 (.int .i64 0)).set_ne (b' := W.heap.size + 1 + 1 + 1) (by omega) _ _ _) hk2 (by simp; omega)) rfl) (aggE _) (Blk.cell (Blk.keep ((H5.out.set_ne (b' := W.heap.size + 1 + 1) (by omega) _ _ _).set 0 (.int .i64 14)) hk2 (by simp; omega)) rfl), ?_⟩
    exact ⟨by rw [HON.out], (HCW.out.into hk (by simp; omega)).into hk2 (by simp; omega)⟩
  case hstop =>
    rintro c pre V hSp ⟨rfl, x, e, hs, ⟨h4, h5⟩, hcw⟩ hK
    gi_wp2
    refine ⟨by simp, .inl ⟨_, _, rfl, run_takeDeferred hK, ?_⟩⟩
    have hk : Chg [w0.heap.size] V (V.putObj w0.heap.size (.deferred none)) := (Chg.refl _ V).putObj hK (.inl (by simp)) _
    refine ⟨_, results_cells rfl _ _ (W.heap.size + 1 + 1) (.int .i64 x) (W.heap.size + 1 + 1 + 1) (.int .i64 e) rfl rfl (aggI _) ((h4.keep hk (by simp; omega)).cell rfl) (aggE _) ((h5.keep hk (by simp; omega)).cell rfl), ?_⟩
    exact ⟨by rw [hs], hcw.into hk (by simp; omega)⟩
end Go.Proofs.YtkedegbpkkgeaaaGreat.tf
/- TopFits: rta: All. -/
namespace Go.Proofs.YtkedegbpkkgeaaaGreat.tf
open Go Go.RowKit Go.Proofs.YtkedegbpkkgeaaaGreat.kit Go.Proofs.YtkedegbpkkgeaaaGreat.obj Go.Proofs.YtkedegbpkkgeaaaGreat.mem Go.Proofs.YtkedegbpkkgeaaaGreat.lay Go.Proofs.YtkedegbpkkgeaaaGreat.isa
set_option linter.unusedVariables false
set_option linter.unusedSimpArgs false
set_option maxRecDepth 20000

theorem results_tmp4 {fn : Func} {t u v x : Tmp} (h : fn.results = #[.tmp t, .tmp u, .tmp v, .tmp x]) (tmps : Array Value) (P : Program) (w : World) :
    (results fn tmps).run P w = .ok (.tuple #[tmps.getD t undef, tmps.getD u undef, tmps.getD v undef, tmps.getD x undef]) w := by
  simp [results, h]
theorem idx_cases (l : List Int) (x : Int) : idxM l x = -1 ∨ ∃ k : Nat, k < l.length ∧ idxM l x = (k : Int) := by
  unfold idxM
  cases h : l.findIdx? (· = x) with
  | none => exact .inl rfl
  | some k =>
    have := (List.findIdx?_eq_some_iff_getElem.1 h).1
    exact .inr ⟨k, this, rfl⟩
theorem goR_bd (f : Int → Int) (d : Int) (hd : 0 ≤ d) : ∀ (n : Nat) (r : Int), (goR f d n r).1 ≤ d
  | 0, _ => hd
  | n + 1, r => by
    unfold goR
    split
    · exact hd
    · split
      · show r ≤ d; omega
      · exact goR_bd f d hd n _
theorem all_stuck (s : S) (ranks : List Int) (m : Nat) (h : (allM s ranks m).e ≠ 0) : ∀ k, allM s ranks (m + k) = allM s ranks m
  | 0 => rfl
  | k + 1 => by
    rw [← Nat.add_assoc]
    show rtStep s ranks (allM s ranks (m + k)) (m + k) = _
    rw [all_stuck s ranks m h k]
    unfold rtStep
    rw [if_pos h]
theorem all_lens (s : S) (ranks : List Int) : ∀ m, (allM s ranks m).e = 0 → (allM s ranks m).rs.length = s.ts.length ∧ (allM s ranks m).cs.length = s.ts.length
  | 0, _ => by simp [allM, rt0]
  | m + 1, h => by
    unfold allM rtStep at h ⊢
    by_cases h0 : (allM s ranks m).e = 0
    · have ih := all_lens s ranks m h0
      simp only [h0, ne_eq, not_true, if_false] at h ⊢
      by_cases hx : (respM s (idxM ranks m) (allM s ranks m).cs).2 = 0
      · simp only [hx, ne_eq, not_true, if_false, List.length_set] at h ⊢
        exact ih
      · simp only [hx, ne_eq, not_false_eq_true, if_true] at h
        try exact absurd h hx
    · rw [if_pos h0] at h; exact absurd h h0
/-- what All tells -/
def AllP (B n : Nat) (a : Rt) (e : Ending) (w : World) : Prop :=
  (a.e = 0 ∧ ∃ A C, e = .returned (.tuple #[.slice (some ⟨A, 0, none⟩) n n, .slice (some ⟨C, 0, none⟩) n n, .int .i64 (-1), .int .i64 0]) ∧ InB w A a.rs ∧ a.rs.length = n ∧ B ≤ A) ∨
  (a.e ≠ 0 ∧ e = .returned (.tuple #[.slice none 0 0, .slice none 0 0, .int .i64 a.at_, .int .i64 a.e]))
theorem AllP.good {B n : Nat} {a : Rt} {e : Ending} {w : World} (A C : Nat) (h0 : a.e = 0) (h : e = .returned (.tuple #[.slice (some ⟨A, 0, none⟩) n n, .slice (some ⟨C, 0, none⟩) n n, .int .i64 (-1), .int .i64 0])) (hb : InB w A a.rs) (hl : a.rs.length = n) (hB : B ≤ A) : AllP B n a e w := .inl ⟨h0, A, C, h, hb, hl, hB⟩
theorem AllP.bad {B n : Nat} {a : Rt} {e : Ending} {w : World} (h0 : a.e ≠ 0) (h : e = .returned (.tuple #[.slice none 0 0, .slice none 0 0, .int .i64 a.at_, .int .i64 a.e])) : AllP B n a e w := .inr ⟨h0, h⟩
set_option maxHeartbeats 16000000 in
theorem all_any (ta : Option Addr) (tc : Nat) (oa : Option Addr) (oc : Nat) (ts : List DT) (os : List DO) (W : World) (h : SysOK W ta tc oa oc ts os) :
    Calls Tryz.prog 8 #[.agg #[.slice ta ts.length tc, .slice oa os.length oc]] W fun e W' => AllP W.heap.size ts.length (allM (sys ts os) (ranksM (ts.map (fun d => d.t.prio))) ts.length) e W' ∧ Chg [] W W' := by
  have hl := h.lens
  obtain ⟨n, hn⟩ : ∃ n, ts.length = n := ⟨_, rfl⟩
  have hmk := make_ints n (by omega)
  obtain ⟨zs, hzs⟩ : ∃ z, ((List.replicate n (0 : Int)).map (Value.int .i64)).toArray = z := ⟨_, rfl⟩
  rw [hzs] at hmk
  have HZ : Hid (∀ V b, Blk V b zs 3 → InB V b (List.replicate n 0)) := Lib.hid (fun V b hb => by unfold InB; rw [hzs]; exact hb)
  obtain ⟨ranks, hrk⟩ : ∃ l, ranksM (ts.map (fun d => d.t.prio)) = l := ⟨_, rfl⟩
  have hrl : ranks.length = n := by rw [← hrk, ranks_len, List.length_map, hn]
  have HTR := Lib.hid (fun V (hV : Chg [] W V) => by
    have h2 := tranks_any ta tc ts V (h.T.chg hV) hl.1.2
    rw [hrk] at h2
    exact h2)
  have HRB := Lib.hid (fun (a : Option Addr) V => resp_bad ta tc oa oc ts os a n n V)
  have HRE := Lib.hid (fun (i : Nat) (hi : i < n) (ca : Option Addr) (cc : Nat) (cs : List Int) V (hV : Chg [] W V) (hcr : ReadsN V (.slice ca cs.length cc) cs) (hcl : cs.length = n) => resp_any ta tc oa oc ts os i ca cc cs V (h.chg hV) (by omega) hcr (by omega))
  have HJB := Lib.hid (fun (i : Nat) (hi : i < n) (r : Int) (hr : r ≤ 9223372036854775807) V (hV : Chg [] W V) => job_any ta tc oa oc ts os i r V (h.chg hV) (by omega) hr)
  have HIN : Hid (∀ i : Nat, i < n → inB (sys ts os) i = true) := Lib.hid (fun i hi => by unfold inB; simp only [sys, List.length_map]; exact decide_eq_true ⟨by omega, by omega⟩)
  have HDL : Hid (∀ (i : Nat) (cs : List Int), i < n → (respM (sys ts os) i cs).1 ≤ 9223372036854775807) := Lib.hid (fun i cs hi => by
    obtain ⟨d, hd⟩ : ∃ d, ts[i]? = some d := ⟨_, List.getElem?_eq_getElem (by omega)⟩
    have hnum := h.fine.nums d.p (List.mem_map.2 ⟨d, List.mem_of_getElem? hd, rfl⟩)
    unfold respM
    split
    · have hb := goR_bd (fun r => loadM (sys ts os) i r cs) ((sys ts os).t (i : Int)).deadline (by rw [sys_t os hd]; omega) 10001 1
      rw [sys_t os hd] at hb
      rw [sys_t os hd]
      exact Int.le_trans hb (by omega)
    · exact (by decide : (0 : Int) ≤ 9223372036854775807))
  have HNN : Hid (n ≤ 8 ∧ ranks.length = n ∧ (sys ts os).ts.length = n) := Lib.hid ⟨by omega, hrl, by simp [sys, hn]⟩
  have HC1 : Hid (Chg [] W (W.alloc (.cells #[.slice ta ts.length tc, .slice oa os.length oc] 25))) := Lib.hid ((Chg.refl [] W).alloc _)
  have HBS : Hid (Blk (W.alloc (.cells #[.slice ta ts.length tc, .slice oa os.length oc] 25)) W.heap.size #[.slice ta ts.length tc, .slice oa os.length oc] 25) := Lib.hid (Blk.new W _ _)
  obtain ⟨SS, hSS⟩ : ∃ s, sys ts os = s := ⟨_, rfl⟩
  simp only [hSS] at HRE HJB HIN HDL HNN
  rw [hrk, hSS]
  rw [hn] at HTR HRB HRE HJB HC1 HBS ⊢
  clear h hl hn hzs hrk hrl hSS
  go_enter Tryz.func8, Tryz.ntmps8
  go_upto_region 1 with fail
  obtain ⟨w1, hw1⟩ : ∃ x, x = (W.alloc (.cells #[.slice ta n tc, .slice oa os.length oc] 25)) := ⟨_, rfl⟩
  rw [← hw1] at HC1 HBS
  try rw [← hw1]
  have HS1 : Hid (W.heap.size < w1.heap.size) := Lib.hid (by rw [hw1]; simp)
  clear hw1
  go_cut [2, 3] from 11 to 18 (fun a b wc => ∃ A B : Nat, a = .slice (some ⟨A, 0, none⟩) n n ∧ b = .slice (some ⟨B, 0, none⟩) n n ∧ Hid (InB wc A (List.replicate n 0) ∧ InB wc B (List.replicate n 0)) ∧ Hid (A ≠ B ∧ w1.heap.size ≤ A ∧ w1.heap.size ≤ B) ∧ Hid (Chg [] w1 wc))
  case first =>
    have s0 := HBS.out.cell (o := 0) (v := .slice ta n tc) rfl
    have e0 : ∀ x, (w1.alloc x).cell? ⟨W.heap.size, 0, none⟩ = some (.slice ta n tc) := fun x => (HBS.out.alloc x).cell rfl
    have HBL : Hid (Blk ((w1.alloc (.cells zs 3)).alloc (.cells zs 3)).drew w1.heap.size zs 3 ∧ Blk ((w1.alloc (.cells zs 3)).alloc (.cells zs 3)).drew (w1.heap.size + 1) zs 3) := Lib.hid ⟨(Blk.new w1 _ _).alloc _, by
      have := Blk.new (w1.alloc (.cells zs 3)) zs 3
      rw [show (w1.alloc (.cells zs 3)).heap.size = w1.heap.size + 1 by simp] at this
      exact this⟩
    have HCC : Hid (Chg [] w1 ((w1.alloc (.cells zs 3)).alloc (.cells zs 3)).drew) := Lib.hid ((((Chg.refl [] w1).alloc _).alloc _).drew)
    go_region
    · go_wp2_with fail
      go_meet
      case rel => exact ⟨w1.heap.size, w1.heap.size + 1, rfl, rfl, Lib.hid ⟨HZ.out _ _ HBL.out.1, HZ.out _ _ HBL.out.2⟩, Lib.hid ⟨by omega, by omega, by omega⟩, HCC⟩
    · go_wp2_with fail
      go_meet
      case rel => exact ⟨w1.heap.size + 1, w1.heap.size, rfl, rfl, Lib.hid ⟨HZ.out _ _ HBL.out.2, HZ.out _ _ HBL.out.1⟩, Lib.hid ⟨by omega, by omega, by omega⟩, HCC⟩
  case rest =>
    obtain ⟨A, B, rfl, rfl, HAB, HNE, HCW⟩ := hcut
    have s0 := (HBS.out.keep HCW.out (by simp)).cell (o := 0) (v := .slice ta n tc) rfl
    go_wp2_with (go_at_call 16; refine (HTR.out _ (HC1.out.trans HCW.out)).mono ?_; rintro e w3 ⟨⟨R, rfl, hR, hRB⟩, hc3⟩; have HR := Lib.hid hR; have HRB2 := Lib.hid hRB; have HW3 := Lib.hid (HCW.out.trans hc3); have HAB3 := Lib.hid (And.intro (HAB.out.1.keep hc3 (by simp)) (HAB.out.2.keep hc3 (by simp))); rw [HNN.out.2.1]; clear hR hRB hc3)
    try clear s0
    have HAB0 := HAB
    have HNR : Hid (A ≠ R ∧ B ≠ R) := Lib.hid (by
      have h1 := HAB3.out
      have h2 := HRB2.out
      have h3 := HCW.out
      refine ⟨fun e => ?_, fun e => ?_⟩
      · subst e; have h4 := Blk.lt HAB0.out.1; omega
      · subst e; have h4 := Blk.lt HAB0.out.2; omega)
    clear HTR hmk
    have HK : Hid (∀ V, Chg [A, B] w3 V → Chg [] W V) := Lib.hid (fun V hV => (HC1.out.trans HW3.out).into hV (fun y hy => .inr (by have := HNE.out; have := HS1.out; simp at hy; omega)))
    have HSY : Hid (∀ V, Chg [A, B] w3 V → V.cell? ⟨W.heap.size, 0, none⟩ = some (.slice ta n tc) ∧ V.cell? ⟨W.heap.size, 1, none⟩ = some (.slice oa os.length oc)) := Lib.hid (fun V hV => by
      have hb := (HBS.out.keep HW3.out (by simp)).keep hV (by have := HNE.out; have := HS1.out; simp; omega)
      exact ⟨hb.cell rfl, hb.cell rfl⟩)
    have HIX : Hid (∀ V, Chg [A, B] w3 V → ∀ x : Int, Calls Tryz.prog 17 #[.slice (some ⟨R, 0, none⟩) n n, .int .i64 x] V fun e W' => e = .returned (.int .i64 (idxM ranks x)) ∧ Chg [] V W') := Lib.hid (fun V hV x => by
      have h1 := (HR.out.keep hV (by have := HNR.out; simp; omega)).reads (by rw [HNN.out.2.1]; have := HNN.out.1; omega)
      rw [HNN.out.2.1] at h1
      exact index_any _ ranks x V h1 (by rw [HNN.out.2.1]; have := HNN.out.1; omega))
    go_loopw [2, 3, 24] (fun y z q wr => ∃ m : Nat, m ≤ n ∧ y = .slice (some ⟨A, 0, none⟩) n n ∧ z = .slice (some ⟨B, 0, none⟩) n n ∧ q = .int .i64 m ∧ Hid ((allM SS ranks m).e = 0) ∧ Hid (InB wr A (allM SS ranks m).rs ∧ InB wr B (allM SS ranks m).cs) ∧ Hid (Chg [A, B] w3 wr)) (fun _ _ q _ => n - (intOf q).toNat)
    case atStart => exact ⟨0, Nat.zero_le _, rfl, rfl, rfl, Lib.hid rfl, Lib.hid (by have h := HAB3.out; unfold allM rt0; rw [HNN.out.2.2]; exact h), Lib.hid (Chg.refl _ _)⟩
    case round =>
      obtain ⟨m, hm, rfl, rfl, rfl, HE0, HRC, HJ⟩ := hrel
      have HLE := Lib.hid (all_lens SS ranks m HE0.out)
      by_cases hlm : m < n
      · have HLM := Lib.hid hlm
        have mm : (m : Int) < (n : Int) := by omega
        have k9 : IntKind.i64.wrap ((m : Int) + 1) = (m : Int) + 1 := by rw [IntKind.wrap_i64]; have := HNN.out; omega
        have hnx : allM SS ranks (m + 1) = if (respM SS (idxM ranks m) (allM SS ranks m).cs).2 ≠ 0 then ⟨[], [], idxM ranks m, (respM SS (idxM ranks m) (allM SS ranks m).cs).2⟩ else ⟨(allM SS ranks m).rs.set (idxM ranks m).toNat (respM SS (idxM ranks m) (allM SS ranks m).cs).1, (allM SS ranks m).cs.set (idxM ranks m).toNat (jobM SS (idxM ranks m) (respM SS (idxM ranks m) (allM SS ranks m).cs).1), -1, 0⟩ := by
          show rtStep SS ranks (allM SS ranks m) m = _
          unfold rtStep
          rw [if_neg (by rw [HE0.out]; simp)]
        have HST : Hid (∀ a : Rt, allM SS ranks (m + 1) = a → a.e ≠ 0 → allM SS ranks n = a) := Lib.hid (fun a ha he => by
          have h := all_stuck SS ranks (m + 1) (by rw [ha]; exact he) (n - (m + 1))
          rw [show m + 1 + (n - (m + 1)) = n by omega, ha] at h
          exact h)
        obtain ⟨cs, hcs⟩ : ∃ l, (allM SS ranks m).cs = l := ⟨_, rfl⟩
        obtain ⟨rs, hrs⟩ : ∃ l, (allM SS ranks m).rs = l := ⟨_, rfl⟩
        rw [hcs, hrs] at hnx HLE HRC
        have HX := HIX.out
        have hix := fun V hV => HIX.out V hV (m : Int)
        have HRD : Hid (∀ V, Chg [] wr V → ReadsN V (.slice (some ⟨B, 0, none⟩) n n) cs) := Lib.hid (fun V hV => by
          have h1 := (HRC.out.2.keep hV (by simp)).reads (by have := HLE.out.2; have := HNN.out; omega)
          rw [show cs.length = n by rw [HLE.out.2]; exact HNN.out.2.2] at h1
          exact h1)
        have HMV : Hid (∀ V, Chg [] wr V → Chg [A, B] w3 V) := Lib.hid (fun V hV => HJ.out.trans (hV.mono (by simp)))
        rcases idx_cases ranks m with hi | ⟨i, hi, hii⟩
        · rw [hi] at hix hnx
          have hr0 : respM SS (-1) cs = (0, 1) := by unfold respM; rw [if_neg (by unfold inB; simp)]
          rw [hr0, if_pos (by decide)] at hnx
          have HFN := Lib.hid (HST.out _ hnx (by decide))
          have HIQ := Lib.hid hix
          clear hix hnx hi hr0 hlm hm HX hcs hrs
          go_wp2_with (first
            | (go_at_call 17; refine (HIQ.out _ HJ.out).mono ?_; rintro e w4 ⟨rfl, hc4⟩; obtain ⟨s0, s1⟩ := HSY.out w4 (HMV.out w4 hc4); have HC4 := Lib.hid hc4; clear hc4)
            | (go_at_call 18; refine (HRB.out (some ⟨B, 0, none⟩) w4).mono ?_; rintro e w5 ⟨rfl, hc5⟩; have HC5 := Lib.hid (HC4.out.trans hc5); clear hc5))
          (try simp only [Exit.inBlock, Exit.then])
          refine bodyPost_ret (results_tmp4 rfl _ _ _) rfl ?_
          exact ⟨.bad (by rw [HFN.out]; decide) (by rw [HFN.out]; rfl), HK.out _ (HMV.out _ HC5.out)⟩
        · rw [hii] at hix hnx
          have hin : i < n := by have := HNN.out; omega
          rw [Int.toNat_natCast] at hnx
          have hre := fun V (hV : Chg [] wr V) => HRE.out i hin (some ⟨B, 0, none⟩) n cs V (HK.out V (HMV.out V hV)) (by have h := HRD.out V hV; rw [show cs.length = n by rw [HLE.out.2]; exact HNN.out.2.2]; exact h) (by rw [HLE.out.2]; exact HNN.out.2.2)
          rw [show cs.length = n by rw [HLE.out.2]; exact HNN.out.2.2] at hre
          have hdl := HDL.out i cs hin
          obtain ⟨⟨x, ee⟩, hxe⟩ : ∃ q, respM SS (i : Int) cs = q := ⟨_, rfl⟩
          rw [hxe] at hre hnx hdl
          simp only at hre hnx hdl
          have HIQ := Lib.hid hix
          have HRQ := Lib.hid hre
          by_cases he : ee = 0
          · subst he
            rw [if_neg (by decide)] at hnx
            have HNX := Lib.hid hnx
            have HJQ := Lib.hid (fun V hV => HJB.out i hin x hdl V hV)
            obtain ⟨jb, hjb⟩ : ∃ z, jobM SS (i : Int) x = z := ⟨_, rfl⟩
            rw [hjb] at HJQ HNX
            have g1 := idxN A n i hin
            have g2 := idxN B n i hin
            obtain ⟨ra, hra⟩ : ∃ z, rs[i]? = some z := ⟨_, List.getElem?_eq_getElem (by rw [HLE.out.1]; have := HNN.out; omega)⟩
            obtain ⟨ca, hca⟩ : ∃ z, cs[i]? = some z := ⟨_, List.getElem?_eq_getElem (by rw [HLE.out.2]; have := HNN.out; omega)⟩
            have HRA := Lib.hid hra
            have HCA := Lib.hid hca
            clear hix hnx hre hi hii hxe hlm hm HX hcs hrs hdl hjb hra hca hin
            go_wp2_with (first
              | (go_at_call 17; refine (HIQ.out _ HJ.out).mono ?_; rintro e w4 ⟨rfl, hc4⟩; obtain ⟨s0, s1⟩ := HSY.out w4 (HMV.out w4 hc4); have HC4 := Lib.hid hc4; clear hc4)
              | (go_at_call 18; refine (HRQ.out w4 HC4.out).mono ?_; rintro e w5 ⟨rfl, hc5⟩; have HC5 := Lib.hid (HC4.out.trans hc5); obtain ⟨s2, s3⟩ := HSY.out w5 (HMV.out w5 HC5.out); clear hc5)
              | (go_at_call 19; refine (HJQ.out w5 (HK.out w5 (HMV.out w5 HC5.out))).mono ?_; rintro e w6 ⟨rfl, hc6⟩; have HC6 := Lib.hid (HC5.out.trans hc6); have HA6 := Lib.hid (HRC.out.1.keep HC6.out (by simp)); have HB6 := Lib.hid (HRC.out.2.keep HC6.out (by simp)); have c1 := HA6.out.at HRA.out; have f1 := Blk.free HA6.out i; have c2 := (Blk.set_ne HB6.out (b' := A) (Ne.symm HNE.out.1) i none (.int .i64 x)).cell (o := i) (v := .int .i64 ca) (by rw [List.getElem?_toArray, List.getElem?_map, HCA.out]; rfl); have f2 := (Blk.set_ne HB6.out (b' := A) (Ne.symm HNE.out.1) i none (.int .i64 x)).free i; clear hc6))
            have HW7 : Hid ((InB ((w6.setCell ⟨A, i, none⟩ (.int .i64 x)).setCell ⟨B, i, none⟩ (.int .i64 jb)) A (allM SS ranks (m + 1)).rs ∧ InB ((w6.setCell ⟨A, i, none⟩ (.int .i64 x)).setCell ⟨B, i, none⟩ (.int .i64 jb)) B (allM SS ranks (m + 1)).cs) ∧ Chg [A, B] w3 ((w6.setCell ⟨A, i, none⟩ (.int .i64 x)).setCell ⟨B, i, none⟩ (.int .i64 jb))) := Lib.hid (by
              rw [HNX.out]
              refine ⟨⟨Blk.set_ne (HA6.out.put i x) (b' := B) HNE.out.1 i none (.int .i64 jb), InB.put (l := cs) (Blk.set_ne HB6.out (b' := A) (Ne.symm HNE.out.1) i none (.int .i64 x)) i jb⟩, (((HMV.out w6 HC6.out).setCell (.inl (by simp)) _).setCell (.inl (by simp)) _)⟩)
            have hlm := HLM.out
            go_roundw
            case rel => exact ⟨m + 1, by omega, rfl, rfl, by go_num, Lib.hid (by rw [HNX.out]), Lib.hid HW7.out.1, Lib.hid HW7.out.2⟩
            case measure => (simp [intOf]) <;> omega
          · rw [if_pos he] at hnx
            have HFN := Lib.hid (HST.out _ hnx he)
            have d1 : (ee != 0) = true := by simpa using he
            have HEE := Lib.hid he
            clear hix hnx hre hi hii hxe hlm hm HX hcs hrs hdl hin he
            go_wp2_with (first
              | (go_at_call 17; refine (HIQ.out _ HJ.out).mono ?_; rintro e w4 ⟨rfl, hc4⟩; obtain ⟨s0, s1⟩ := HSY.out w4 (HMV.out w4 hc4); have HC4 := Lib.hid hc4; clear hc4)
              | (go_at_call 18; refine (HRQ.out w4 HC4.out).mono ?_; rintro e w5 ⟨rfl, hc5⟩; have HC5 := Lib.hid (HC4.out.trans hc5); clear hc5))
            (try simp only [Exit.inBlock, Exit.then])
            refine bodyPost_ret (results_tmp4 rfl _ _ _) rfl ?_
            exact ⟨.bad (by rw [HFN.out]; exact HEE.out) (by rw [HFN.out]; rfl), HK.out _ (HMV.out _ HC5.out)⟩
      · obtain rfl : n = m := by omega
        have mm : ¬ (n : Int) < (n : Int) := by omega
        clear hlm hm
        go_wp2
        (try simp only [Exit.inBlock, Exit.then])
        refine bodyPost_ret (results_tmp4 rfl _ _ _) rfl ?_
        exact ⟨.good A B HE0.out rfl HRC.out.1 (by rw [HLE.out.1]; exact HNN.out.2.2) (by have := HNE.out; have := HS1.out; omega), HK.out _ HJ.out⟩
end Go.Proofs.YtkedegbpkkgeaaaGreat.tf
/- TopFits: slices.Clone of instructions, words, numbers; task.Copy. -/
namespace Go.Proofs.YtkedegbpkkgeaaaGreat.tf
open Go Go.RowKit Go.Proofs.YtkedegbpkkgeaaaGreat.kit Go.Proofs.YtkedegbpkkgeaaaGreat.obj Go.Proofs.YtkedegbpkkgeaaaGreat.mem Go.Proofs.YtkedegbpkkgeaaaGreat.lay Go.Proofs.YtkedegbpkkgeaaaGreat.isa
set_option linter.unusedVariables false
set_option linter.unusedSimpArgs false
set_option maxRecDepth 20000

theorem infoIns : (Tryz.prog.info? 53).map (fun i => (i.zero, i.size, i.bytes)) = some (some (.agg #[.int .i64 0, .int .i64 0, .int .i64 0, .int .i64 0, .int .u32 0]), 5, 40) := by kernel_rfl
theorem infoU32 : (Tryz.prog.info? 43).map (fun i => (i.zero, i.size, i.bytes)) = some (some (.int .u32 0), 1, 4) := by kernel_rfl
theorem infoTsk : (Tryz.prog.info? 31).map (fun i => (i.zero, i.size, i.bytes)) = some (some (.agg #[.int .i64 0, .int .i64 0, .int .i64 0, .int .i64 0, .int .i64 0, .int .i64 0, .slice none 0 0]), 7, 72) := by kernel_rfl
theorem ins_one (l : List Ins) : ∀ u ∈ l.flatMap Ins.cells, u.oneCell' = true := by
  intro u hu
  obtain ⟨i, -, hu⟩ := List.mem_flatMap.1 hu
  simp only [Ins.cells, List.mem_cons, List.not_mem_nil, or_false] at hu
  rcases hu with rfl | rfl | rfl | rfl | rfl <;> rfl
theorem cloneC_any (a : Option Addr) (n c : Nat) (xs : List Value) (w : World) (hr : Reads w 5 (.slice a n c) n xs) (hn : n ≤ 1000) (h1 : ∀ u ∈ xs, u.oneCell' = true) :
    Calls Tryz.prog 83 #[.slice a n c] w fun e w' => ∃ a' c', e = .returned (.slice a' n c') ∧ w'.ownsRow w.heap.size 53 5 (.slice a' n c') n xs ∧ Chg [] w w' := by
  obtain ⟨i0, hi, hz0, hz1, hz2⟩ := info_parts infoIns
  cases a with
  | none =>
    have hnil := fun w => Lib.run_eql_slice_nil (P := Tryz.prog) w 29 53 none 0 0 0 0 Tryz.underlying29
    have h0 : n = 0 ∧ c = 0 := by
      obtain ⟨_, _, ⟨h0, a, c', he, ha, _⟩ | ⟨_, b, off, c', he, _⟩⟩ := hr
      · simp only [Value.slice.injEq] at he
        exact ⟨h0, by rw [he.2.2]; exact ha he.1.symm⟩
      · simp at he
    obtain ⟨rfl, rfl⟩ := h0
    obtain rfl : xs = [] := List.eq_nil_of_length_eq_zero (by have := hr.1; omega)
    clear hn hr hi hz0 hz1 hz2 h1
    go_enter Tryz.func83, Tryz.ntmps83
    go_wp2
    go_ret
    exact ⟨none, 0, rfl, World.ownsRow_nil _ _ _ _, Chg.refl _ _⟩
  | some x =>
    have hnil := fun w => Lib.run_eql_slice_nil (P := Tryz.prog) w 29 53 (some x) n c 0 0 Tryz.underlying29
    go_enter Tryz.func83, Tryz.ntmps83
    go_wp2_with (at_builtin; refine wpList_append_any _ rfl _ _ 29 rfl w.heap.size 53 i0 (.agg #[.int .i64 0, .int .i64 0, .int .i64 0, .int .i64 0, .int .u32 0]) 5 40 Tryz.underlying29 hi hz0 hz1 hz2 rfl (by decide) (.slice (some ⟨w.heap.size, 0, none⟩) 0 0) 0 [] rfl (World.ownsRow_lit w #[] 0 (Nat.le_refl _) (Nat.zero_le _) rfl) (.slice (some x) n c) n _ rfl (hr.alloc _) h1 (by have := hr.le; omega) (by omega) (by simp) ?_; intro v2 w2 hown2 hg2; simp only [Nat.zero_add, List.nil_append] at hown2; have hc2 : Chg [] w w2 := ((Chg.refl _ _).alloc _).grown hg2 (by simp [Value.ownBlock]); obtain ⟨a2, c2, rfl⟩ := own_open hown2; clear hg2)
    go_ret
    exact ⟨_, _, rfl, hown2, hc2⟩
theorem cloneU_any (a : Option Addr) (n c : Nat) (xs : List Value) (w : World) (hr : Reads w 1 (.slice a n c) n xs) (hn : n ≤ 1000) (h1 : ∀ u ∈ xs, u.oneCell' = true) :
    Calls Tryz.prog 48 #[.slice a n c] w fun e w' => ∃ a' c', e = .returned (.slice a' n c') ∧ w'.ownsRow w.heap.size 43 1 (.slice a' n c') n xs ∧ Chg [] w w' := by
  obtain ⟨i0, hi, hz0, hz1, hz2⟩ := info_parts infoU32
  cases a with
  | none =>
    have hnil := fun w => Lib.run_eql_slice_nil (P := Tryz.prog) w 44 43 none 0 0 0 0 Tryz.underlying44
    have h0 : n = 0 ∧ c = 0 := by
      obtain ⟨_, _, ⟨h0, a, c', he, ha, _⟩ | ⟨_, b, off, c', he, _⟩⟩ := hr
      · simp only [Value.slice.injEq] at he
        exact ⟨h0, by rw [he.2.2]; exact ha he.1.symm⟩
      · simp at he
    obtain ⟨rfl, rfl⟩ := h0
    obtain rfl : xs = [] := List.eq_nil_of_length_eq_zero (by have := hr.1; omega)
    clear hn hr hi hz0 hz1 hz2 h1
    go_enter Tryz.func48, Tryz.ntmps48
    go_wp2
    go_ret
    exact ⟨none, 0, rfl, World.ownsRow_nil _ _ _ _, Chg.refl _ _⟩
  | some x =>
    have hnil := fun w => Lib.run_eql_slice_nil (P := Tryz.prog) w 44 43 (some x) n c 0 0 Tryz.underlying44
    go_enter Tryz.func48, Tryz.ntmps48
    go_wp2_with (at_builtin; refine wpList_append_any _ rfl _ _ 44 rfl w.heap.size 43 i0 (.int .u32 0) 1 4 Tryz.underlying44 hi hz0 hz1 hz2 rfl (by decide) (.slice (some ⟨w.heap.size, 0, none⟩) 0 0) 0 [] rfl (World.ownsRow_lit w #[] 0 (Nat.le_refl _) (Nat.zero_le _) rfl) (.slice (some x) n c) n _ rfl (hr.alloc _) h1 (by have := hr.le; omega) (by omega) (by simp) ?_; intro v2 w2 hown2 hg2; simp only [Nat.zero_add, List.nil_append] at hown2; have hc2 : Chg [] w w2 := ((Chg.refl _ _).alloc _).grown hg2 (by simp [Value.ownBlock]); obtain ⟨a2, c2, rfl⟩ := own_open hown2; clear hg2)
    go_ret
    exact ⟨_, _, rfl, hown2, hc2⟩
theorem cloneN_any (a : Option Addr) (n c : Nat) (xs : List Value) (w : World) (hr : Reads w 1 (.slice a n c) n xs) (hn : n ≤ 1000) (h1 : ∀ u ∈ xs, u.oneCell' = true) :
    Calls Tryz.prog 49 #[.slice a n c] w fun e w' => ∃ a' c', e = .returned (.slice a' n c') ∧ w'.ownsRow w.heap.size 3 1 (.slice a' n c') n xs ∧ Chg [] w w' := by
  obtain ⟨i0, hi, hz0, hz1, hz2⟩ := info_parts infoInt
  cases a with
  | none =>
    have hnil := fun w => Lib.run_eql_slice_nil (P := Tryz.prog) w 33 3 none 0 0 0 0 Tryz.underlying33
    have h0 : n = 0 ∧ c = 0 := by
      obtain ⟨_, _, ⟨h0, a, c', he, ha, _⟩ | ⟨_, b, off, c', he, _⟩⟩ := hr
      · simp only [Value.slice.injEq] at he
        exact ⟨h0, by rw [he.2.2]; exact ha he.1.symm⟩
      · simp at he
    obtain ⟨rfl, rfl⟩ := h0
    obtain rfl : xs = [] := List.eq_nil_of_length_eq_zero (by have := hr.1; omega)
    clear hn hr hi hz0 hz1 hz2 h1
    go_enter Tryz.func49, Tryz.ntmps49
    go_wp2
    go_ret
    exact ⟨none, 0, rfl, World.ownsRow_nil _ _ _ _, Chg.refl _ _⟩
  | some x =>
    have hnil := fun w => Lib.run_eql_slice_nil (P := Tryz.prog) w 33 3 (some x) n c 0 0 Tryz.underlying33
    go_enter Tryz.func49, Tryz.ntmps49
    go_wp2_with (at_builtin; refine wpList_append_any _ rfl _ _ 33 rfl w.heap.size 3 i0 (.int .i64 0) 1 8 Tryz.underlying33 hi hz0 hz1 hz2 rfl (by decide) (.slice (some ⟨w.heap.size, 0, none⟩) 0 0) 0 [] rfl (World.ownsRow_lit w #[] 0 (Nat.le_refl _) (Nat.zero_le _) rfl) (.slice (some x) n c) n _ rfl (hr.alloc _) h1 (by have := hr.le; omega) (by omega) (by simp) ?_; intro v2 w2 hown2 hg2; simp only [Nat.zero_add, List.nil_append] at hown2; have hc2 : Chg [] w w2 := ((Chg.refl _ _).alloc _).grown hg2 (by simp [Value.ownBlock]); obtain ⟨a2, c2, rfl⟩ := own_open hown2; clear hg2)
    go_ret
    exact ⟨_, _, rfl, hown2, hc2⟩
theorem szTk : (Tryz.prog.info? 31).map (·.size) = some 7 := by kernel_rfl
set_option maxHeartbeats 4000000 in
theorem tcopy_any (tk tp tpe tof td tow : Int) (tca : Option Addr) (tcl tcc : Nat) (code : List Ins) (W : World) (hr : ReadsC W (.slice tca tcl tcc) code) (hl : code.length = tcl) (hn : tcl ≤ 1000) :
    Calls Tryz.prog 47 #[.agg #[.int .i64 tk, .int .i64 tp, .int .i64 tpe, .int .i64 tof, .int .i64 td, .int .i64 tow, .slice tca tcl tcc]] W fun e W' => ∃ a2 c2, e = .returned (.agg #[.int .i64 tk, .int .i64 tp, .int .i64 tpe, .int .i64 tof, .int .i64 td, .int .i64 tow, .slice a2 tcl c2]) ∧ W'.ownsRow W.heap.size 53 5 (.slice a2 tcl c2) tcl (code.flatMap Ins.cells) ∧ Chg [] W W' := by
  subst hl
  have HC2 : Hid (Chg [] W ((W.alloc (.cells #[.int .i64 tk, .int .i64 tp, .int .i64 tpe, .int .i64 tof, .int .i64 td, .int .i64 tow, .slice tca code.length tcc] 31)).alloc (.cells #[.int .i64 0, .int .i64 0, .int .i64 0, .int .i64 0, .int .i64 0, .int .i64 0, .slice none 0 0] 31))) := Lib.hid (((Chg.refl [] W).alloc _).alloc _)
  have HB1 : Hid (Blk ((W.alloc (.cells #[.int .i64 tk, .int .i64 tp, .int .i64 tpe, .int .i64 tof, .int .i64 td, .int .i64 tow, .slice tca code.length tcc] 31)).alloc (.cells #[.int .i64 0, .int .i64 0, .int .i64 0, .int .i64 0, .int .i64 0, .int .i64 0, .slice none 0 0] 31)) W.heap.size #[.int .i64 tk, .int .i64 tp, .int .i64 tpe, .int .i64 tof, .int .i64 td, .int .i64 tow, .slice tca code.length tcc] 31) := Lib.hid ((Blk.new W _ _).alloc _)
  have HB2 : Hid (Blk ((W.alloc (.cells #[.int .i64 tk, .int .i64 tp, .int .i64 tpe, .int .i64 tof, .int .i64 td, .int .i64 tow, .slice tca code.length tcc] 31)).alloc (.cells #[.int .i64 0, .int .i64 0, .int .i64 0, .int .i64 0, .int .i64 0, .int .i64 0, .slice none 0 0] 31)) (W.heap.size + 1) #[.int .i64 0, .int .i64 0, .int .i64 0, .int .i64 0, .int .i64 0, .int .i64 0, .slice none 0 0] 31) := Lib.hid (by
    have := Blk.new (W.alloc (.cells #[.int .i64 tk, .int .i64 tp, .int .i64 tpe, .int .i64 tof, .int .i64 td, .int .i64 tow, .slice tca code.length tcc] 31)) #[.int .i64 0, .int .i64 0, .int .i64 0, .int .i64 0, .int .i64 0, .int .i64 0, .slice none 0 0] 31
    rwa [show (W.alloc (.cells #[.int .i64 tk, .int .i64 tp, .int .i64 tpe, .int .i64 tof, .int .i64 td, .int .i64 tow, .slice tca code.length tcc] 31)).heap.size = W.heap.size + 1 by simp] at this)
  have HS : Hid (W.heap.size ≤ ((W.alloc (.cells #[.int .i64 tk, .int .i64 tp, .int .i64 tpe, .int .i64 tof, .int .i64 td, .int .i64 tow, .slice tca code.length tcc] 31)).alloc (.cells #[.int .i64 0, .int .i64 0, .int .i64 0, .int .i64 0, .int .i64 0, .int .i64 0, .slice none 0 0] 31)).heap.size) := Lib.hid HC2.out.size
  have HCL := Lib.hid (cloneC_any tca code.length tcc (code.flatMap Ins.cells) _ (hr.1.fresh HC2.out) hn (ins_one code))
  clear hr hn
  go_enter Tryz.func47, Tryz.ntmps47
  go_upto_region 1 with fail
  obtain ⟨w2, hw2⟩ : ∃ x, x = ((W.alloc (.cells #[.int .i64 tk, .int .i64 tp, .int .i64 tpe, .int .i64 tof, .int .i64 td, .int .i64 tow, .slice tca code.length tcc] 31)).alloc (.cells #[.int .i64 0, .int .i64 0, .int .i64 0, .int .i64 0, .int .i64 0, .int .i64 0, .slice none 0 0] 31)) := ⟨_, rfl⟩
  rw [← hw2] at HC2 HB1 HB2 HCL HS
  try rw [← hw2]
  clear hw2
  have c6 := HB1.out.cell (o := 6) (v := .slice tca code.length tcc) rfl
  go_upto_region 2 with (go_at_call 83; refine HCL.out.mono ?_; rintro e w3 ⟨a2, c2, rfl, ho3, hc3⟩; have HO3 := Lib.hid ho3; have HC3 := Lib.hid hc3; have HB3 := Lib.hid (HB1.out.keep hc3 (by simp)); have HB4 := Lib.hid (HB2.out.keep hc3 (by simp)); have c7 := HB3.out.cell (o := 6) (v := .slice tca code.length tcc) rfl; have f7 := HB3.out.free 6; clear ho3 hc3)
  have HB5 : Hid (Blk (w3.setCell ⟨W.heap.size, 6, none⟩ (.slice a2 code.length c2)) W.heap.size #[.int .i64 tk, .int .i64 tp, .int .i64 tpe, .int .i64 tof, .int .i64 td, .int .i64 tow, .slice a2 code.length c2] 31) := Lib.hid (HB3.out.set 6 _)
  have HB6 : Hid (Blk (w3.setCell ⟨W.heap.size, 6, none⟩ (.slice a2 code.length c2)) (W.heap.size + 1) #[.int .i64 0, .int .i64 0, .int .i64 0, .int .i64 0, .int .i64 0, .int .i64 0, .slice none 0 0] 31) := Lib.hid (HB4.out.set_ne (b' := W.heap.size) (by omega) _ _ _)
  have HK5 : Hid (Chg [W.heap.size] w3 (w3.setCell ⟨W.heap.size, 6, none⟩ (.slice a2 code.length c2))) := Lib.hid ((Chg.refl _ _).setCell (.inl (by simp)) _)
  obtain ⟨w5, hw5⟩ : ∃ x, x = w3.setCell ⟨W.heap.size, 6, none⟩ (.slice a2 code.length c2) := ⟨_, rfl⟩
  rw [← hw5] at HB5 HB6 HK5
  try rw [← hw5]
  clear hw5 c6 c7 f7
  have d0 := HB5.out.cell (o := 0) rfl
  have d1 := HB5.out.cell (o := 1) rfl
  have d2 := HB5.out.cell (o := 2) rfl
  have d3 := HB5.out.cell (o := 3) rfl
  have d4 := HB5.out.cell (o := 4) rfl
  have d5 := HB5.out.cell (o := 5) rfl
  have d6 := HB5.out.cell (o := 6) rfl
  go_wp2_with (refine Go.Proofs.YtkedegbpkkgeaaaGreat.blk.wpList_store_blk rfl 31 (.tmp 2) (.tmp 7) rfl (W.heap.size + 1) #[.int .i64 tk, .int .i64 tp, .int .i64 tpe, .int .i64 tof, .int .i64 td, .int .i64 tow, .slice a2 code.length c2] rfl rfl HB6.out szTk rfl (by simp [Value.oneCell']) ?_; intro w9 hb9 hc9; have HB9 := Lib.hid hb9; have HC9 := Lib.hid hc9; clear hb9 hc9)
  refine bodyPost_ret (results_row_one rfl _ _ (W.heap.size + 1) 31 _ (0, 0) _ rfl HB9.out Tryz.underlying31 rfl szTk) rfl ?_
  have hny : ∀ y, (Value.slice a2 code.length c2).ownBlock = some y → w2.heap.size ≤ y := fun y hy => (World.ownsRow.lt HO3.out y hy).1
  have hlt : W.heap.size + 1 < w2.heap.size := HB2.out.lt
  refine ⟨a2, c2, rfl, own_mono (own_keep (own_keep HO3.out HK5.out ?_) HC9.out ?_) (by omega), ((HC2.out.trans HC3.out).into HK5.out (by simp)).into HC9.out (by simp)⟩
  · intro y hy hm
    have := hny y hy
    simp at hm
    omega
  · intro y hy hm
    have := hny y hy
    simp at hm
    omega
end Go.Proofs.YtkedegbpkkgeaaaGreat.tf
/- TopFits: systems that were copied. -/
namespace Go.Proofs.YtkedegbpkkgeaaaGreat.tf
open Go Go.RowKit Go.Proofs.YtkedegbpkkgeaaaGreat.kit Go.Proofs.YtkedegbpkkgeaaaGreat.obj Go.Proofs.YtkedegbpkkgeaaaGreat.mem Go.Proofs.YtkedegbpkkgeaaaGreat.lay Go.Proofs.YtkedegbpkkgeaaaGreat.isa
set_option linter.unusedVariables false
set_option linter.unusedSimpArgs false
set_option maxRecDepth 20000

/-- no block of these holds cells of this type -/
def Far (w : World) (L : List Nat) (T : TypeId) : Prop := ∀ y ∈ L, ∀ c fr, w.heap[y]? ≠ some (.cells c T fr)
theorem own_far {w w' : World} {B s n : Nat} {T : TypeId} {v : Value} {xs : List Value} {L : List Nat} (h : w.ownsRow B T s v n xs) (k : Chg L w w') (f : Far w L T) : w'.ownsRow B T s v n xs := own_keep h k (fun y hy hm => by
  rcases h.2 with ⟨rfl, -⟩ | ⟨g, cap, cur, rfl, hB, hg, h3⟩
  · cases hy
  · obtain rfl : g = y := by simpa [Value.ownBlock] using hy
    exact f _ hm _ _ hg)
theorem far_blk {w : World} {O : Nat} {c : Array Value} {T T2 : TypeId} (k : Blk w O c T2) (hT : T2 ≠ T) : Far w [O] T := fun y hy c' fr h => by
  obtain rfl : y = O := by simpa using hy
  unfold Blk at k
  rw [k] at h
  simp at h
  exact hT h.2.1
theorem far_own {w : World} {B s n : Nat} {T T2 : TypeId} {v : Value} {xs : List Value} (h : w.ownsRow B T2 s v n xs) (hT : T2 ≠ T) : Far w v.ownBlock.toList T := fun y hy c fr hh => by
  rcases h.2 with ⟨rfl, -⟩ | ⟨g, cap, cur, rfl, hB, hg, h3⟩
  · cases hy
  · obtain rfl : g = y := by simpa [Value.ownBlock, eq_comm] using hy
    rw [hg] at hh
    simp at hh
    exact hT hh.2.1
theorem far_nil (w : World) (T : TypeId) : Far w [] T := fun y hy => by cases hy
theorem blk_far {w w' : World} {O : Nat} {c : Array Value} {T : TypeId} {L : List Nat} (h : Blk w O c T) (k : Chg L w w') (f : Far w L T) : Blk w' O c T := Blk.keep h k (fun hm => f O hm _ _ h)
/-- tasks that were copied -/
structure CopT (W : World) (B : Nat) (ta : Option Addr) (tc : Nat) (ts : List DT) : Prop where
  row : W.ownsRow B 31 7 (.slice ta ts.length tc) ts.length (ts.flatMap (fun d => d.t.cells))
  code : ∀ d ∈ ts, d.t.cl = d.code.length ∧ W.ownsRow B 53 5 (.slice d.t.ca d.t.cl d.t.cc) d.t.cl (d.code.flatMap Ins.cells)
structure CopO (W : World) (B : Nat) (oa : Option Addr) (oc : Nat) (os : List DO) : Prop where
  row : W.ownsRow B 46 8 (.slice oa os.length oc) os.length (os.flatMap (fun d => d.o.cells))
  ini : ∀ d ∈ os, d.o.il = d.ini.length ∧ W.ownsRow B 43 1 (.slice d.o.ia d.o.il d.o.ic) d.o.il (d.ini.map (Value.int .u32))
  rds : ∀ d ∈ os, d.o.rl = d.rds.length ∧ W.ownsRow B 3 1 (.slice d.o.ra d.o.rl d.o.rc) d.o.rl (d.rds.map (Value.int .i64))
theorem CopT.keep {W V : World} {B : Nat} {ta : Option Addr} {tc : Nat} {ts : List DT} {L : List Nat} (h : CopT W B ta tc ts) (k : Chg L W V) (f1 : Far W L 31) (f2 : Far W L 53) : CopT V B ta tc ts :=
  ⟨own_far h.row k f1, fun d hd => ⟨(h.code d hd).1, own_far (h.code d hd).2 k f2⟩⟩
theorem CopO.keep {W V : World} {B : Nat} {oa : Option Addr} {oc : Nat} {os : List DO} {L : List Nat} (h : CopO W B oa oc os) (k : Chg L W V) (f1 : Far W L 46) (f2 : Far W L 43) (f3 : Far W L 3) : CopO V B oa oc os :=
  ⟨own_far h.row k f1, fun d hd => ⟨(h.ini d hd).1, own_far (h.ini d hd).2 k f2⟩, fun d hd => ⟨(h.rds d hd).1, own_far (h.rds d hd).2 k f3⟩⟩
theorem CopO.keepR {W V : World} {B : Nat} {oa : Option Addr} {oc : Nat} {os : List DO} {L : List Nat} (h : CopO W B oa oc os) (k : Chg L W V) (f1 : ∀ y, (Value.slice oa os.length oc).ownBlock = some y → y ∉ L) (f2 : Far W L 43) (f3 : Far W L 3) : CopO V B oa oc os :=
  ⟨own_keep h.row k f1, fun d hd => ⟨(h.ini d hd).1, own_far (h.ini d hd).2 k f2⟩, fun d hd => ⟨(h.rds d hd).1, own_far (h.rds d hd).2 k f3⟩⟩
/-- a system that was copied -/
structure Cop (W : World) (B : Nat) (ta : Option Addr) (tc : Nat) (ts' : List DT) (oa : Option Addr) (oc : Nat) (os' : List DO) (ts : List DT) (os : List DO) : Prop where
  T : CopT W B ta tc ts'
  O : CopO W B oa oc os'
  tp : ts'.map DT.p = ts.map DT.p
  op : os'.map DO.p = os.map DO.p
theorem mem_tp {ts' ts : List DT} (h : ts'.map DT.p = ts.map DT.p) {d : DT} (hd : d ∈ ts') : ∃ e ∈ ts, e.p = d.p := by
  have := List.mem_map_of_mem (f := DT.p) hd
  rw [h] at this
  exact List.mem_map.1 this
theorem mem_op {ts' ts : List DO} (h : ts'.map DO.p = ts.map DO.p) {d : DO} (hd : d ∈ ts') : ∃ e ∈ ts, e.p = d.p := by
  have := List.mem_map_of_mem (f := DO.p) hd
  rw [h] at this
  exact List.mem_map.1 this
theorem CopT.reads {W V : World} {B : Nat} {ta : Option Addr} {tc : Nat} {ts ts' : List DT} {v : Value} (h : CopT W B ta tc ts') (hp : ts'.map DT.p = ts.map DT.p) (hT : ReadsDT V v ts) : ReadsDT W (.slice ta ts'.length tc) ts' := by
  refine ⟨⟨?_, fun t ht => ?_⟩, fun d hd => ⟨?_, fun i hi => ?_⟩⟩
  · rw [rowsT_map, List.length_map]
    exact Reads.of_own h.row (by decide)
  · obtain ⟨d, hd, rfl⟩ := List.mem_map.1 ht
    obtain ⟨e, he, hep⟩ := mem_tp hp hd
    have h1 := hT.1.2 e.t (List.mem_map.2 ⟨e, he, rfl⟩)
    have h2 : e.t.own = d.t.own := congrArg T.own hep
    rwa [h2] at h1
  · obtain ⟨h1, h2⟩ := h.code d hd
    have h3 := Reads.of_own h2 (by decide)
    rwa [← h1]
  · obtain ⟨e, he, hep⟩ := mem_tp hp hd
    have h2 : e.code = d.code := congrArg T.code hep
    exact (hT.2 e he).2 i (by rw [h2]; exact hi)
theorem CopO.reads {W : World} {B : Nat} {oa : Option Addr} {oc : Nat} {os' : List DO} (h : CopO W B oa oc os') : ReadsDO W (.slice oa os'.length oc) os' := by
  refine ⟨?_, fun d hd => ⟨?_, ?_⟩⟩
  · unfold ReadsO
    rw [rowsO_map, List.length_map]
    exact Reads.of_own h.row (by decide)
  · obtain ⟨h1, h2⟩ := h.ini d hd
    have h3 := Reads.of_own h2 (by decide)
    unfold ReadsU
    rwa [← h1]
  · obtain ⟨h1, h2⟩ := h.rds d hd
    have h3 := Reads.of_own h2 (by decide)
    unfold ReadsN
    rwa [← h1]
theorem Cop.ok {W V : World} {B : Nat} {ta ta' : Option Addr} {tc tc' : Nat} {ts' ts : List DT} {oa oa' : Option Addr} {oc oc' : Nat} {os' os : List DO} (h : Cop W B ta' tc' ts' oa' oc' os' ts os) (k : SysOK V ta tc oa oc ts os) : SysOK W ta' tc' oa' oc' ts' os' := by
  refine ⟨h.T.reads h.tp k.T, h.O.reads, fun d hd => ?_, ?_⟩
  · obtain ⟨e, he, hep⟩ := mem_op h.op hd
    have h1 := k.w e he
    have hl1 := (k.O.2 e he).leni
    have hl2 := (k.O.2 e he).lenr
    unfold Ob.W at h1 ⊢
    rw [hl1, hl2] at h1
    rw [(h.O.ini d hd).1, (h.O.rds d hd).1]
    have e1 : e.o.k = d.o.k := congrArg O.k hep
    have e2 : e.o.w = d.o.w := congrArg O.w hep
    have e3 : e.o.s = d.o.s := congrArg O.s hep
    have e4 : e.o.c = d.o.c := congrArg O.c hep
    have e5 : e.o.st = d.o.st := congrArg O.st hep
    have e6 : e.ini = d.ini := congrArg O.ini hep
    have e7 : e.rds = d.rds := congrArg O.rds hep
    rwa [e1, e2, e3, e4, e5, e6, e7] at h1
  · have h1 := k.fine
    unfold sys at h1 ⊢
    rwa [h.tp, h.op]
theorem CopT.snoc {W : World} {B : Nat} {ta : Option Addr} {tc : Nat} {ts : List DT} {d : DT} (row : W.ownsRow B 31 7 (.slice ta (ts.length + 1) tc) (ts.length + 1) (ts.flatMap (fun d => d.t.cells) ++ d.t.cells))
    (code : ∀ d ∈ ts, d.t.cl = d.code.length ∧ W.ownsRow B 53 5 (.slice d.t.ca d.t.cl d.t.cc) d.t.cl (d.code.flatMap Ins.cells)) (hl : d.t.cl = d.code.length) (hc : W.ownsRow B 53 5 (.slice d.t.ca d.t.cl d.t.cc) d.t.cl (d.code.flatMap Ins.cells)) : CopT W B ta tc (ts ++ [d]) := by
  refine ⟨?_, fun e he => ?_⟩
  · rw [List.length_append, List.flatMap_append]
    simpa using row
  · rcases List.mem_append.1 he with he | he
    · exact code e he
    · obtain rfl : e = d := by simpa using he
      exact ⟨hl, hc⟩
theorem CopO.snoc {W : World} {B : Nat} {oa : Option Addr} {oc : Nat} {os : List DO} {d : DO} (row : W.ownsRow B 46 8 (.slice oa (os.length + 1) oc) (os.length + 1) (os.flatMap (fun d => d.o.cells) ++ d.o.cells))
    (ini : ∀ d ∈ os, d.o.il = d.ini.length ∧ W.ownsRow B 43 1 (.slice d.o.ia d.o.il d.o.ic) d.o.il (d.ini.map (Value.int .u32)))
    (rds : ∀ d ∈ os, d.o.rl = d.rds.length ∧ W.ownsRow B 3 1 (.slice d.o.ra d.o.rl d.o.rc) d.o.rl (d.rds.map (Value.int .i64)))
    (h1 : d.o.il = d.ini.length ∧ W.ownsRow B 43 1 (.slice d.o.ia d.o.il d.o.ic) d.o.il (d.ini.map (Value.int .u32))) (h2 : d.o.rl = d.rds.length ∧ W.ownsRow B 3 1 (.slice d.o.ra d.o.rl d.o.rc) d.o.rl (d.rds.map (Value.int .i64))) : CopO W B oa oc (os ++ [d]) := by
  refine ⟨?_, fun e he => ?_, fun e he => ?_⟩
  · rw [List.length_append, List.flatMap_append]
    simpa using row
  · rcases List.mem_append.1 he with he | he
    · exact ini e he
    · obtain rfl : e = d := by simpa using he
      exact h1
  · rcases List.mem_append.1 he with he | he
    · exact rds e he
    · obtain rfl : e = d := by simpa using he
      exact h2
theorem infoOb : (Tryz.prog.info? 46).map (fun i => (i.zero, i.size, i.bytes)) = some (some (.agg #[.int .i64 0, .int .i64 0, .int .i64 0, .int .i64 0, .int .u32 0, .slice none 0 0, .int .i64 0, .slice none 0 0]), 8, 96) := by kernel_rfl
theorem szSy : (Tryz.prog.info? 25).map (·.size) = some 2 := by kernel_rfl
/-- what Copy tells -/
def CopE (B : Nat) (ts : List DT) (os : List DO) (e : Ending) (w : World) : Prop := ∃ a c ts' a2 c2 os', e = .returned (.agg #[.slice a ts'.length c, .slice a2 os'.length c2]) ∧ Cop w B a c ts' a2 c2 os' ts os
end Go.Proofs.YtkedegbpkkgeaaaGreat.tf
