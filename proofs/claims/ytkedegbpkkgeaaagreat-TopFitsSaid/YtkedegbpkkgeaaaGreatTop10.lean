import Derived.Test.YtkedegbpkkgeaaaGreatTop8
import Derived.Test.YtkedegbpkkgeaaaGreatFitP
import Derived.Test.YtkedegbpkkgeaaaGreatPlans
import Derived.BigQuiet
import Derived.Test.YtkedegbpkkgeaaaGreatTop3
/- TopFits: systems in memory, with all that they hold (isa's instructions), and how their cells are found. -/
namespace Go.Proofs.YtkedegbpkkgeaaaGreat.tf
open Go Go.RowKit Go.Proofs.YtkedegbpkkgeaaaGreat.kit Go.Proofs.YtkedegbpkkgeaaaGreat.obj Go.Proofs.YtkedegbpkkgeaaaGreat.mem Go.Proofs.YtkedegbpkkgeaaaGreat.lay Go.Proofs.YtkedegbpkkgeaaaGreat.isa
set_option linter.unusedVariables false
set_option linter.unusedSimpArgs false
set_option maxRecDepth 20000

theorem szIns : (Tryz.prog.info? 53).map (·.size) = some 5 := by kernel_rfl
theorem szI : (Tryz.prog.info? 3).map (·.size) = some 1 := by kernel_rfl
theorem cellsUint : Tryz.prog.cellsOf 43 = 1 := by kernel_rfl
def ReadsC (w : World) (v : Value) (l : List Ins) : Prop := Reads w 5 v l.length (l.flatMap Ins.cells) ∧ ∀ i ∈ l, (Lit.int .u32 i.n).wf = true
def ReadsN (w : World) (v : Value) (l : List Int) : Prop := Reads w 1 v l.length (l.map (Value.int .i64))
def ReadsU (w : World) (v : Value) (l : List Int) : Prop := Reads w 1 v l.length (l.map (Value.int .u32))
theorem ReadsU.chg {w w' : World} {v : Value} {l : List Int} (h : ReadsU w v l) (k : Chg [] w w') : ReadsU w' v l := Reads.fresh h k
theorem ReadsC.chg {w w' : World} {v : Value} {l : List Ins} (h : ReadsC w v l) (k : Chg [] w w') : ReadsC w' v l := ⟨h.1.fresh k, h.2⟩
theorem ReadsN.chg {w w' : World} {v : Value} {l : List Int} (h : ReadsN w v l) (k : Chg [] w w') : ReadsN w' v l := Reads.fresh h k
/-- a task as it lies, and its code -/
structure DT where
  t : Tk
  code : List Ins
structure DO where
  o : Ob
  ini : List Int
  rds : List Int
def DT.p (d : DT) : T := ⟨d.t.kind, d.t.prio, d.t.period, d.t.offset, d.t.deadline, d.t.own, d.code⟩
def DO.p (d : DO) : O := ⟨d.o.k, d.o.w, d.o.s, d.o.c, d.o.st, d.ini, d.o.wr, d.rds⟩
def DT.R (w : World) (d : DT) : Prop := ReadsC w (.slice d.t.ca d.t.cl d.t.cc) d.code
def DO.R (w : World) (d : DO) : Prop := ReadsU w (.slice d.o.ia d.o.il d.o.ic) d.ini ∧ ReadsN w (.slice d.o.ra d.o.rl d.o.rc) d.rds
theorem DT.R.chg {w w' : World} {d : DT} (h : d.R w) (k : Chg [] w w') : d.R w' := ReadsC.chg h k
theorem DO.R.chg {w w' : World} {d : DO} (h : d.R w) (k : Chg [] w w') : d.R w' := ⟨h.1.chg k, h.2.chg k⟩
theorem DT.R.len {w : World} {d : DT} (h : d.R w) : d.t.cl = d.code.length := by
  obtain ⟨_, _, he, _⟩ := reads_slice h.1; simp at he; exact he.2.1
theorem DO.R.leni {w : World} {d : DO} (h : d.R w) : d.o.il = d.ini.length := by
  obtain ⟨_, _, he, _⟩ := reads_slice h.1; simp at he; exact he.2.1
theorem DO.R.lenr {w : World} {d : DO} (h : d.R w) : d.o.rl = d.rds.length := by
  obtain ⟨_, _, he, _⟩ := reads_slice h.2; simp at he; exact he.2.1
def ReadsDT (w : World) (v : Value) (ds : List DT) : Prop := ReadsT w v (ds.map DT.t) ∧ ∀ d ∈ ds, d.R w
def ReadsDO (w : World) (v : Value) (ds : List DO) : Prop := ReadsO w v (ds.map DO.o) ∧ ∀ d ∈ ds, d.R w
theorem ReadsDT.chg {w w' : World} {v : Value} {l : List DT} (h : ReadsDT w v l) (k : Chg [] w w') : ReadsDT w' v l := ⟨h.1.chg k, fun d hd => (h.2 d hd).chg k⟩
theorem ReadsDO.chg {w w' : World} {v : Value} {l : List DO} (h : ReadsDO w v l) (k : Chg [] w w') : ReadsDO w' v l := ⟨h.1.chg k, fun d hd => (h.2 d hd).chg k⟩
theorem code_open {w : World} {n : Nat} {cs : List Value} (h : kit.Opens Tryz.prog w (n + 3) 29 cs) : ∃ a l c is, cs = [.slice a l c] ∧ ReadsC w (.slice a l c) is := by
  obtain ⟨a, l, c, rfl⟩ := h.isSlice Tryz.underlying29 (by rw [cellsInstr]; decide)
  obtain ⟨xs, hx, hxs⟩ := Opens.slice h Tryz.underlying29 cellsInstr (by decide)
  obtain ⟨is, hl, hx2, hw⟩ := rows_of Ins.cells (fun i => (Lit.int .u32 i.n).wf = true) 5 (fun _ => rfl) l xs hx.1 fun i hi => by
    have hp := hxs i hi
    have hl3 := (hp.struct Tryz.underlying53).1
    obtain ⟨t0, g0, v0⟩ := (hp.field Tryz.underlying53 0 _ rfl 0 1 rfl obj.cellsInt).int Tryz.underlying3
    obtain ⟨t1, g1, v1⟩ := (hp.field Tryz.underlying53 1 _ rfl 1 1 rfl obj.cellsInt).int Tryz.underlying3
    obtain ⟨t2, g2, v2⟩ := (hp.field Tryz.underlying53 2 _ rfl 2 1 rfl obj.cellsInt).int Tryz.underlying3
    obtain ⟨t3, g3, v3⟩ := (hp.field Tryz.underlying53 3 _ rfl 3 1 rfl obj.cellsInt).int Tryz.underlying3
    obtain ⟨t4, g4, v4⟩ := (hp.field Tryz.underlying53 4 _ rfl 4 1 rfl cellsUint).int Tryz.underlying43
    rw [cellsInstr] at hl3
    refine ⟨⟨t0, t1, t2, t3, t4⟩, ?_, v4⟩
    generalize (xs.drop (i * 5)).take 5 = ys at *
    match ys, hl3 with
    | [y0, y1, y2, y3, y4], _ => simp at g0 g1 g2 g3 g4; rw [g0, g1, g2, g3, g4]; rfl
  refine ⟨a, l, c, is, rfl, ?_, hw⟩
  rw [hl, ← hx2]
  exact hx
theorem ints_open {w : World} {n : Nat} {cs : List Value} (h : kit.Opens Tryz.prog w (n + 2) 33 cs) : ∃ a l c zs, cs = [.slice a l c] ∧ ReadsN w (.slice a l c) zs := by
  obtain ⟨a, l, c, rfl⟩ := h.isSlice Tryz.underlying33 (by rw [obj.cellsInt]; decide)
  obtain ⟨zs, hl, hr, hw⟩ := h.ints Tryz.underlying33 Tryz.underlying3 obj.cellsInt
  exact ⟨a, l, c, zs, rfl, hr⟩
theorem rowsT_map (ds : List DT) : (ds.map DT.t).flatMap Tk.cells = ds.flatMap (fun d => d.t.cells) := by rw [List.flatMap_map]
theorem rowsO_map (ds : List DO) : (ds.map DO.o).flatMap Ob.cells = ds.flatMap (fun d => d.o.cells) := by rw [List.flatMap_map]
theorem tasks_deep {w : World} {n : Nat} {cs : List Value} (h : kit.Opens Tryz.prog w (n + 6) 22 cs) : ∃ a c ds, cs = [.slice a ds.length c] ∧ ReadsDT w (.slice a ds.length c) ds := by
  obtain ⟨a, l, c, rfl⟩ := h.isSlice Tryz.underlying22 (by rw [cellsTask]; decide)
  obtain ⟨xs, hx, hxs⟩ := Opens.slice h Tryz.underlying22 cellsTask (by decide)
  obtain ⟨ds, hl, hx2, hw⟩ := rows_of (fun d : DT => d.t.cells) (fun d => i64B d.t.own ∧ d.R w) 7 (fun _ => rfl) l xs hx.1 fun i hi => by
    have hp := hxs i hi
    have hl3 := (hp.struct Tryz.underlying31).1
    obtain ⟨t0, g0, v0⟩ := (hp.field Tryz.underlying31 0 _ rfl 0 1 rfl obj.cellsInt).int Tryz.underlying3
    obtain ⟨t1, g1, v1⟩ := (hp.field Tryz.underlying31 1 _ rfl 1 1 rfl obj.cellsInt).int Tryz.underlying3
    obtain ⟨t2, g2, v2⟩ := (hp.field Tryz.underlying31 2 _ rfl 2 1 rfl obj.cellsInt).int Tryz.underlying3
    obtain ⟨t3, g3, v3⟩ := (hp.field Tryz.underlying31 3 _ rfl 3 1 rfl obj.cellsInt).int Tryz.underlying3
    obtain ⟨t4, g4, v4⟩ := (hp.field Tryz.underlying31 4 _ rfl 4 1 rfl obj.cellsInt).int Tryz.underlying3
    obtain ⟨t5, g5, v5⟩ := (hp.field Tryz.underlying31 5 _ rfl 5 1 rfl obj.cellsInt).int Tryz.underlying3
    obtain ⟨a6, l6, c6, is, g6, r6⟩ := code_open (n := n + 1) (hp.field Tryz.underlying31 6 _ rfl 6 1 rfl cellsInstrs)
    rw [cellsTask] at hl3
    refine ⟨⟨⟨t0, t1, t2, t3, t4, t5, a6, l6, c6⟩, is⟩, ?_, wf_i64 v5, r6⟩
    generalize (xs.drop (i * 7)).take 7 = ys at *
    match ys, hl3 with
    | [y0, y1, y2, y3, y4, y5, y6], _ => simp at g0 g1 g2 g3 g4 g5 g6; rw [g0, g1, g2, g3, g4, g5, g6]; rfl
  subst hl
  refine ⟨a, c, ds, rfl, ⟨?_, fun t ht => ?_⟩, fun d hd => (hw d hd).2⟩
  · rw [rowsT_map, List.length_map, ← hx2]
    exact hx
  · obtain ⟨d, hd, rfl⟩ := List.mem_map.1 ht
    exact (hw d hd).1
theorem objs_deep {w : World} {n : Nat} {cs : List Value} (h : kit.Opens Tryz.prog w (n + 5) 23 cs) : ∃ a c ds, cs = [.slice a ds.length c] ∧ ReadsDO w (.slice a ds.length c) ds ∧ ∀ d ∈ ds, d.o.small = true → d.o.W := by
  obtain ⟨a, l, c, rfl⟩ := h.isSlice Tryz.underlying23 (by rw [cellsO]; decide)
  obtain ⟨xs, hx, hxs⟩ := Opens.slice h Tryz.underlying23 cellsO (by decide)
  obtain ⟨ds, hl, hx2, hw⟩ := rows_of (fun d : DO => d.o.cells) (fun d => d.R w ∧ (d.o.small = true → d.o.W)) 8 (fun _ => rfl) l xs hx.1 fun i hi => by
    have hp := hxs i hi
    have hl3 := (hp.struct Tryz.underlying46).1
    obtain ⟨t0, g0, v0⟩ := (hp.field Tryz.underlying46 0 _ rfl 0 1 rfl obj.cellsInt).int Tryz.underlying3
    obtain ⟨t1, g1, v1⟩ := (hp.field Tryz.underlying46 1 _ rfl 1 1 rfl obj.cellsInt).int Tryz.underlying3
    obtain ⟨t2, g2, v2⟩ := (hp.field Tryz.underlying46 2 _ rfl 2 1 rfl obj.cellsInt).int Tryz.underlying3
    obtain ⟨t3, g3, v3⟩ := (hp.field Tryz.underlying46 3 _ rfl 3 1 rfl obj.cellsInt).int Tryz.underlying3
    obtain ⟨t4, g4, v4⟩ := (hp.field Tryz.underlying46 4 _ rfl 4 1 rfl cellsUint).int Tryz.underlying43
    have f5 := hp.field Tryz.underlying46 5 _ rfl 5 1 rfl cellsWs
    obtain ⟨a5, l5, c5, g5⟩ := f5.isSlice Tryz.underlying44 (by rw [cellsUint]; decide)
    rw [g5] at f5
    obtain ⟨ini, hil, r5, w5⟩ := Opens.ints (n := n + 2) f5 Tryz.underlying44 Tryz.underlying43 cellsUint
    obtain ⟨t6, g6, v6⟩ := (hp.field Tryz.underlying46 6 _ rfl 6 1 rfl obj.cellsInt).int Tryz.underlying3
    obtain ⟨a7, l7, c7, rds, g7, r7⟩ := ints_open (n := n + 2) (hp.field Tryz.underlying46 7 _ rfl 7 1 rfl cellsIs)
    rw [cellsO] at hl3
    have b0 := wf_i64 v0
    have b1 := wf_i64 v1
    have b2 := wf_i64 v2
    have b3 := wf_i64 v3
    have b4 := wf_u32 v4
    refine ⟨⟨⟨t0, t1, t2, t3, t4, a5, l5, c5, t6, a7, l7, c7⟩, ini, rds⟩, ?_, ⟨r5, r7⟩, fun hs => ?_⟩
    · generalize (xs.drop (i * 8)).take 8 = ys at *
      match ys, hl3 with
      | [y0, y1, y2, y3, y4, y5, y6, y7], _ => simp at g0 g1 g2 g3 g4 g5 g6 g7; rw [g0, g1, g2, g3, g4, g5, g6, g7]; rfl
    · simp only [Ob.small, decide_eq_true_eq] at hs
      exact ⟨b0, b1, b2, b3, b4, hs.1, hs.2⟩
  subst hl
  refine ⟨a, c, ds, rfl, ⟨?_, fun d hd => (hw d hd).1⟩, fun d hd => (hw d hd).2⟩
  unfold ReadsO
  rw [rowsO_map, List.length_map, ← hx2]
  exact hx
theorem system_deep {w : World} {n : Nat} {cs : List Value} (h : kit.Opens Tryz.prog w (n + 8) 25 cs) :
    ∃ a c ts a2 c2 os, cs = [.slice a ts.length c, .slice a2 os.length c2] ∧ ReadsDT w (.slice a ts.length c) ts ∧ ReadsDO w (.slice a2 os.length c2) os ∧ ∀ d ∈ os, d.o.small = true → d.o.W := by
  have hl := (h.struct Tryz.underlying25).1
  obtain ⟨a, c, ts, h0, r0⟩ := tasks_deep (n := n + 1) (h.field Tryz.underlying25 0 _ rfl 0 1 rfl cellsTasks)
  obtain ⟨a2, c2, os, h1, r1, r2⟩ := objs_deep (n := n + 2) (h.field Tryz.underlying25 1 _ rfl 1 1 rfl cellsObjs)
  rw [cellsSystem] at hl
  refine ⟨a, c, ts, a2, c2, os, ?_, r0, r1, r2⟩
  match cs, hl with
  | [y0, y1], _ => simp at h0 h1; rw [h0, h1]
/-- a task's cells, from a place on -/
def TC (V : World) (b p : Nat) (t : Tk) : Prop := (V.cell? ⟨b, p, none⟩ = some (.int .i64 t.kind) ∧ V.cell? ⟨b, p + 1, none⟩ = some (.int .i64 t.prio) ∧ V.cell? ⟨b, p + 2, none⟩ = some (.int .i64 t.period) ∧ V.cell? ⟨b, p + 3, none⟩ = some (.int .i64 t.offset)) ∧
  V.cell? ⟨b, p + 4, none⟩ = some (.int .i64 t.deadline) ∧ V.cell? ⟨b, p + 5, none⟩ = some (.int .i64 t.own) ∧ V.cell? ⟨b, p + 6, none⟩ = some (.slice t.ca t.cl t.cc)
def OC (V : World) (b p : Nat) (o : Ob) : Prop := (V.cell? ⟨b, p, none⟩ = some (.int .i64 o.k) ∧ V.cell? ⟨b, p + 1, none⟩ = some (.int .i64 o.w) ∧ V.cell? ⟨b, p + 2, none⟩ = some (.int .i64 o.s) ∧ V.cell? ⟨b, p + 3, none⟩ = some (.int .i64 o.c)) ∧
  V.cell? ⟨b, p + 4, none⟩ = some (.int .u32 o.st) ∧ V.cell? ⟨b, p + 5, none⟩ = some (.slice o.ia o.il o.ic) ∧ V.cell? ⟨b, p + 6, none⟩ = some (.int .i64 o.wr) ∧ V.cell? ⟨b, p + 7, none⟩ = some (.slice o.ra o.rl o.rc)
def IC (V : World) (b p : Nat) (i : Ins) : Prop := V.cell? ⟨b, p, none⟩ = some (.int .i64 i.op) ∧ V.cell? ⟨b, p + 1, none⟩ = some (.int .i64 i.a) ∧ V.cell? ⟨b, p + 2, none⟩ = some (.int .i64 i.b) ∧ V.cell? ⟨b, p + 3, none⟩ = some (.int .i64 i.c) ∧ V.cell? ⟨b, p + 4, none⟩ = some (.int .u32 i.n)
theorem tasks_at {w : World} {a : Option Addr} {n c : Nat} {ds : List DT} (h : ReadsDT w (.slice a n c) ds) : n = ds.length ∧ ∃ b off,
    (∀ (i : Nat), i < ds.length → ∀ u, (Instr.indexAt 22 (.slice a n c) (.int .i64 (i : Int))).run Tryz.prog u = .ok (.pointer (some ⟨b, off + i * 7, none⟩)) u) ∧
    ∀ V, Chg [] w V → ∀ (j : Nat) (d : DT), ds[j]? = some d → TC V b (off + j * 7) d.t := by
  have hl : n = ds.length := by obtain ⟨_, _, he, _⟩ := reads_slice h.1.1; simp at he; exact he.2.1
  obtain ⟨b, o, hx, hc, -⟩ := reads_index (P := Tryz.prog) Tryz.underlying22 szTask h.1.1
  rw [List.length_map] at hx
  refine ⟨hl, b, o, hx, fun V hV j d hd => ?_⟩
  have hd2 : (ds.map DT.t)[j]? = some d.t := by rw [List.getElem?_map, hd]; rfl
  have g := fun (k : Nat) (hk : k < 7) (v : Value) (hv : d.t.cells[k]? = some v) => hV.keep (hc (j * 7 + k) v (by rw [flatMap_get Tk.cells 7 (fun _ => rfl) _ j k hk _ hd2]; exact hv)) (by simp)
  refine ⟨⟨g 0 (by decide) _ rfl, ?_, ?_, ?_⟩, ?_, ?_, ?_⟩
  · have := g 1 (by decide) _ rfl; rwa [← Nat.add_assoc] at this
  · have := g 2 (by decide) _ rfl; rwa [← Nat.add_assoc] at this
  · have := g 3 (by decide) _ rfl; rwa [← Nat.add_assoc] at this
  · have := g 4 (by decide) _ rfl; rwa [← Nat.add_assoc] at this
  · have := g 5 (by decide) _ rfl; rwa [← Nat.add_assoc] at this
  · have := g 6 (by decide) _ rfl; rwa [← Nat.add_assoc] at this
theorem objs_at {w : World} {a : Option Addr} {n c : Nat} {ds : List DO} (h : ReadsDO w (.slice a n c) ds) : n = ds.length ∧ ∃ b off,
    (∀ (i : Nat), i < ds.length → ∀ u, (Instr.indexAt 23 (.slice a n c) (.int .i64 (i : Int))).run Tryz.prog u = .ok (.pointer (some ⟨b, off + i * 8, none⟩)) u) ∧
    ∀ V, Chg [] w V → ∀ (j : Nat) (d : DO), ds[j]? = some d → OC V b (off + j * 8) d.o := by
  have hl : n = ds.length := by obtain ⟨_, _, he, _⟩ := reads_slice h.1; simp at he; exact he.2.1
  obtain ⟨b, o, hx, hc, -⟩ := reads_index (P := Tryz.prog) Tryz.underlying23 szObj h.1
  rw [List.length_map] at hx
  refine ⟨hl, b, o, hx, fun V hV j d hd => ?_⟩
  have hd2 : (ds.map DO.o)[j]? = some d.o := by rw [List.getElem?_map, hd]; rfl
  have g := fun (k : Nat) (hk : k < 8) (v : Value) (hv : d.o.cells[k]? = some v) => hV.keep (hc (j * 8 + k) v (by rw [flatMap_get Ob.cells 8 (fun _ => rfl) _ j k hk _ hd2]; exact hv)) (by simp)
  refine ⟨⟨g 0 (by decide) _ rfl, ?_, ?_, ?_⟩, ?_, ?_, ?_, ?_⟩
  · have := g 1 (by decide) _ rfl; rwa [← Nat.add_assoc] at this
  · have := g 2 (by decide) _ rfl; rwa [← Nat.add_assoc] at this
  · have := g 3 (by decide) _ rfl; rwa [← Nat.add_assoc] at this
  · have := g 4 (by decide) _ rfl; rwa [← Nat.add_assoc] at this
  · have := g 5 (by decide) _ rfl; rwa [← Nat.add_assoc] at this
  · have := g 6 (by decide) _ rfl; rwa [← Nat.add_assoc] at this
  · have := g 7 (by decide) _ rfl; rwa [← Nat.add_assoc] at this
theorem code_at {w : World} {a : Option Addr} {n c : Nat} {l : List Ins} (h : ReadsC w (.slice a n c) l) : n = l.length ∧ ∃ b off,
    (∀ (i : Nat), i < l.length → ∀ u, (Instr.indexAt 29 (.slice a n c) (.int .i64 (i : Int))).run Tryz.prog u = .ok (.pointer (some ⟨b, off + i * 5, none⟩)) u) ∧
    ∀ V, Chg [] w V → ∀ (j : Nat) (d : Ins), l[j]? = some d → IC V b (off + j * 5) d := by
  have hl : n = l.length := by obtain ⟨_, _, he, _⟩ := reads_slice h.1; simp at he; exact he.2.1
  obtain ⟨b, o, hx, hc, -⟩ := reads_index (P := Tryz.prog) Tryz.underlying29 szIns h.1
  refine ⟨hl, b, o, hx, fun V hV j d hd => ?_⟩
  have g := fun (k : Nat) (hk : k < 5) (v : Value) (hv : d.cells[k]? = some v) => hV.keep (hc (j * 5 + k) v (by rw [flatMap_get Ins.cells 5 (fun _ => rfl) _ j k hk _ hd]; exact hv)) (by simp)
  refine ⟨g 0 (by decide) _ rfl, ?_, ?_, ?_, ?_⟩
  · have := g 1 (by decide) _ rfl; rwa [← Nat.add_assoc] at this
  · have := g 2 (by decide) _ rfl; rwa [← Nat.add_assoc] at this
  · have := g 3 (by decide) _ rfl; rwa [← Nat.add_assoc] at this
  · have := g 4 (by decide) _ rfl; rwa [← Nat.add_assoc] at this
theorem ints_at {w : World} {a : Option Addr} {n c : Nat} {l : List Int} (h : ReadsN w (.slice a n c) l) : n = l.length ∧ ∃ b off,
    (∀ (i : Nat), i < l.length → ∀ u, (Instr.indexAt 33 (.slice a n c) (.int .i64 (i : Int))).run Tryz.prog u = .ok (.pointer (some ⟨b, off + i, none⟩)) u) ∧
    ∀ V, Chg [] w V → ∀ (j : Nat) (x : Int), l[j]? = some x → V.cell? ⟨b, off + j, none⟩ = some (.int .i64 x) := by
  have hl : n = l.length := by obtain ⟨_, _, he, _⟩ := reads_slice h; simp at he; exact he.2.1
  obtain ⟨b, o, hx, hc, -⟩ := reads_index (P := Tryz.prog) Tryz.underlying33 lay.szInt h
  refine ⟨hl, b, o, fun i hi u => by rw [hx i hi u, Nat.mul_one], fun V hV j x hj => ?_⟩
  exact hV.keep (hc j _ (by rw [List.getElem?_map, hj]; rfl)) (by simp)
end Go.Proofs.YtkedegbpkkgeaaaGreat.tf
/- TopFits: rows that are appended to; rows of spans. -/
namespace Go.Proofs.YtkedegbpkkgeaaaGreat.tf
open Go Go.RowKit Go.Proofs.YtkedegbpkkgeaaaGreat.kit Go.Proofs.YtkedegbpkkgeaaaGreat.obj Go.Proofs.YtkedegbpkkgeaaaGreat.mem Go.Proofs.YtkedegbpkkgeaaaGreat.lay Go.Proofs.YtkedegbpkkgeaaaGreat.isa
set_option linter.unusedVariables false
set_option linter.unusedSimpArgs false
set_option maxRecDepth 20000

theorem own_keep {w w' : World} {B s n : Nat} {T : TypeId} {v : Value} {xs : List Value} {L : List Nat} (h : w.ownsRow B T s v n xs) (k : Chg L w w') (hn : ∀ y, v.ownBlock = some y → y ∉ L) : w'.ownsRow B T s v n xs := by
  obtain ⟨h1, h2⟩ := h
  refine ⟨h1, ?_⟩
  rcases h2 with h2 | ⟨g, cap, cur, rfl, hB, hg, h3⟩
  · exact .inl h2
  · exact .inr ⟨g, cap, cur, rfl, hB, k.heap hg (hn g rfl), h3⟩
theorem own_mono {w : World} {B B' s n : Nat} {T : TypeId} {v : Value} {xs : List Value} (h : w.ownsRow B T s v n xs) (hb : B' ≤ B) : w.ownsRow B' T s v n xs := by
  obtain ⟨h1, h2⟩ := h
  refine ⟨h1, ?_⟩
  rcases h2 with h2 | ⟨g, cap, cur, rfl, hB, hg, h3⟩
  · exact .inl h2
  · exact .inr ⟨g, cap, cur, rfl, by omega, hg, h3⟩
theorem own_open {w : World} {B s n : Nat} {T : TypeId} {v : Value} {xs : List Value} (h : w.ownsRow B T s v n xs) : ∃ a c, v = .slice a n c := by
  obtain ⟨h1, h2⟩ := h
  rcases h2 with ⟨rfl, h2⟩ | ⟨g, cap, cur, rfl, hB, hg, h3⟩
  · subst h2; exact ⟨_, _, rfl⟩
  · exact ⟨_, _, rfl⟩
/-- append of a struct that was just laid: what comes, and where it lies -/
theorem wp_append_row {P : Program} {w : World} {o : Oper} {ac : Act} {K : Act → World → Prop} {Q : Exit → Act → World → Prop} (s x : Operand) (t : TypeId)
    (ho : o.op = .call { callee := .builtin .append, args := #[s, x], argTypes := #[t, t] })
    (base : Nat) (e : TypeId) (i : TypeInfo) (z : Value) (size bytes : Nat) (ht : P.underlying t = some (.slice e)) (hi : P.info? e = some i) (hz : i.zero = some z)
    (hsize : i.size = size) (hby : i.bytes = bytes) (hzs : z.cells.size = size) (hsz : 0 < size)
    (v : Value) (n : Nat) (xs : List Value) (hs : ac.eval s = v) (hown : w.ownsRow base e size v n xs)
    (b : Nat) (us : List Value) (hx : ac.eval x = .slice (some ⟨b, 0, none⟩) 1 1) (hl : us.length = 1 * size) (hb : ∀ (j : Nat) u, us[j]? = some u → w.cell? ⟨b, j, none⟩ = some u) (h1 : ∀ u ∈ us, u.oneCell' = true)
    (h63 : n + 1 ≤ maxLen) (hbytes : (n + 1) * bytes ≤ 140737488355328) (hbase : base ≤ w.heap.size)
    (h : ∀ v' w', w'.ownsRow base e size v' (n + 1) (xs ++ us) → w.grownBy w' v.ownBlock → (∀ y, v'.ownBlock = some y → v.ownBlock = some y ∨ y = w.heap.size) → K (ac.put o.dst v') w') : o.wp P ac w K Q := by
  have hc : ∀ (j : Nat) y, us[j]? = some y → w.cell? ((⟨b, 0, none⟩ : Addr).add j) = some y := by
    intro j y hy
    rw [add_plain, Nat.zero_add]
    exact hb j y hy
  obtain ⟨v', w', hr, h2, h3, _⟩ := run_append_own (P := P) w base t o.type e i z size bytes ht hi hz hsize hby hzs hsz v n xs hown ⟨b, 0, none⟩ 1 1 us hl hc h1 h63 hbytes hbase
  have h4 := append_blk (P := P) w base t o.type e i z size bytes ht hi hz hsize hby hzs hsz v n xs hown ⟨b, 0, none⟩ 1 1 us hl (by decide) hc h1 h63 hbytes v' w' hr
  unfold Oper.wp execOp
  simp only [ho, resolve, invoke, builtin, Sem.run_bind, Sem.run_pure, Result.andThen_ok, List.map_toArray, List.map_cons, List.map_nil, hs, hx, hr]
  exact h v' w' h2 h3 h4
theorem wpList_append_row {P : Program} {w : World} {ops : Array Oper} {rest : List Oper} {o : Oper} {ac : Act} {Q : Exit → Act → World → Prop} (hgd : o.guard = none) (s x : Operand) (t : TypeId)
    (ho : o.op = .call { callee := .builtin .append, args := #[s, x], argTypes := #[t, t] })
    (base : Nat) (e : TypeId) (i : TypeInfo) (z : Value) (size bytes : Nat) (ht : P.underlying t = some (.slice e)) (hi : P.info? e = some i) (hz : i.zero = some z)
    (hsize : i.size = size) (hby : i.bytes = bytes) (hzs : z.cells.size = size) (hsz : 0 < size)
    (v : Value) (n : Nat) (xs : List Value) (hs : ac.eval s = v) (hown : w.ownsRow base e size v n xs)
    (b : Nat) (us : List Value) (hx : ac.eval x = .slice (some ⟨b, 0, none⟩) 1 1) (hl : us.length = 1 * size) (hb : ∀ (j : Nat) u, us[j]? = some u → w.cell? ⟨b, j, none⟩ = some u) (h1 : ∀ u ∈ us, u.oneCell' = true)
    (h63 : n + 1 ≤ maxLen) (hbytes : (n + 1) * bytes ≤ 140737488355328) (hbase : base ≤ w.heap.size)
    (h : ∀ v' w', w'.ownsRow base e size v' (n + 1) (xs ++ us) → w.grownBy w' v.ownBlock → (∀ y, v'.ownBlock = some y → v.ownBlock = some y ∨ y = w.heap.size) → wpList P ops Q rest (ac.put o.dst v') w') : wpList P ops Q (o :: rest) ac w :=
  wpList_plain hgd fun _ hK => wp_append_row s x t ho base e i z size bytes ht hi hz hsize hby hzs hsz v n xs hs hown b us hx hl hb h1 h63 hbytes hbase fun v' w' h2 h3 h4 => hK _ _ (h v' w' h2 h3 h4)
/-- it returns a Boolean, of which this is true -/
def BoolP (Q : Bool → Prop) (e : Ending) : Prop := ∃ r, e = .returned (.bool r) ∧ Q r
theorem BoolP.mk {Q : Bool → Prop} {e : Ending} (r : Bool) (h : e = .returned (.bool r)) (q : Q r) : BoolP Q e := ⟨r, h, q⟩
/-- it returns a place and an error's number, of which this is true -/
def CodeP (Q : Int → Prop) (e : Ending) : Prop := ∃ a b c x, e = .returned (.tuple #[.agg #[.int .i64 a, .int .i64 b, .int .i64 c], .int .i64 x]) ∧ Q x
theorem CodeP.mk {Q : Int → Prop} {e : Ending} (a b c x : Int) (h : e = .returned (.tuple #[.agg #[.int .i64 a, .int .i64 b, .int .i64 c], .int .i64 x])) (q : Q x) : CodeP Q e := ⟨a, b, c, x, h, q⟩
/-- it returns a number and an error's number, of which this is true -/
def CodeI (Q : Int → Prop) (e : Ending) : Prop := ∃ a x, e = .returned (.tuple #[.int .i64 a, .int .i64 x]) ∧ Q x
theorem CodeI.mk {Q : Int → Prop} {e : Ending} (a x : Int) (h : e = .returned (.tuple #[.int .i64 a, .int .i64 x])) (q : Q x) : CodeI Q e := ⟨a, x, h, q⟩
/-- it returns a number, of which this is true -/
def IntP (Q : Int → Prop) (e : Ending) : Prop := ∃ x, e = .returned (.int .i64 x) ∧ Q x
theorem IntP.mk {Q : Int → Prop} {e : Ending} (x : Int) (h : e = .returned (.int .i64 x)) (q : Q x) : IntP Q e := ⟨x, h, q⟩
/-- a span's cells -/
def spc (s : Int × Int) : List Value := [.int .i64 s.1, .int .i64 s.2]
theorem szSpan : (Tryz.prog.info? 117).map (·.size) = some 2 := by kernel_rfl
theorem infoSpan : (Tryz.prog.info? 117).map (fun i => (i.zero, i.size, i.bytes)) = some (some (.agg #[.int .i64 0, .int .i64 0]), 2, 16) := by kernel_rfl
def ReadsS (w : World) (v : Value) (l : List (Int × Int)) : Prop := Reads w 2 v l.length (l.flatMap spc)
theorem ReadsS.chg {w w' : World} {v : Value} {l : List (Int × Int)} (h : ReadsS w v l) (k : Chg [] w w') : ReadsS w' v l := Reads.fresh h k
def OwnS (w : World) (B : Nat) (v : Value) (l : List (Int × Int)) : Prop := w.ownsRow B 117 2 v l.length (l.flatMap spc)
theorem OwnS.snoc {w : World} {B : Nat} {v : Value} {xs : List (Int × Int)} {t n : Int} (h : w.ownsRow B 117 2 v (xs.length + 1) (xs.flatMap spc ++ [.int .i64 t, .int .i64 n])) : OwnS w B v (xs ++ [(t, n)]) := by
  unfold OwnS
  rw [List.length_append, List.flatMap_append]
  simpa [spc] using h
theorem OwnS.reads {w : World} {B : Nat} {v : Value} {l : List (Int × Int)} (h : OwnS w B v l) : ReadsS w v l := Reads.of_own h (by decide)
def SC (V : World) (b p : Nat) (s : Int × Int) : Prop := V.cell? ⟨b, p, none⟩ = some (.int .i64 s.1) ∧ V.cell? ⟨b, p + 1, none⟩ = some (.int .i64 s.2)
theorem spans_at {w : World} {a : Option Addr} {n c : Nat} {l : List (Int × Int)} (h : ReadsS w (.slice a n c) l) : n = l.length ∧ ∃ b off,
    (∀ (i : Nat), i < l.length → ∀ u, (Instr.indexAt 113 (.slice a n c) (.int .i64 (i : Int))).run Tryz.prog u = .ok (.pointer (some ⟨b, off + i * 2, none⟩)) u) ∧
    ∀ V, Chg [] w V → ∀ (j : Nat) (d : Int × Int), l[j]? = some d → SC V b (off + j * 2) d := by
  have hl : n = l.length := by obtain ⟨_, _, he, _⟩ := reads_slice h; simp at he; exact he.2.1
  obtain ⟨b, o, hx, hc, -⟩ := reads_index (P := Tryz.prog) Tryz.underlying113 szSpan h
  refine ⟨hl, b, o, hx, fun V hV j d hd => ?_⟩
  have g := fun (k : Nat) (hk : k < 2) (v : Value) (hv : (spc d)[k]? = some v) => hV.keep (hc (j * 2 + k) v (by rw [flatMap_get spc 2 (fun _ => rfl) _ j k hk _ hd]; exact hv)) (by simp)
  refine ⟨g 0 (by decide) _ rfl, ?_⟩
  have := g 1 (by decide) _ rfl; rwa [← Nat.add_assoc] at this
end Go.Proofs.YtkedegbpkkgeaaaGreat.tf
/- TopFits: the reference's flow: In, Overlap, Loops. -/
namespace Go.Proofs.YtkedegbpkkgeaaaGreat.tf
open Go Go.RowKit Go.Proofs.YtkedegbpkkgeaaaGreat.kit Go.Proofs.YtkedegbpkkgeaaaGreat.obj Go.Proofs.YtkedegbpkkgeaaaGreat.mem Go.Proofs.YtkedegbpkkgeaaaGreat.lay Go.Proofs.YtkedegbpkkgeaaaGreat.isa
set_option linter.unusedVariables false
set_option linter.unusedSimpArgs false
set_option maxRecDepth 20000

theorem loopsF_snoc : ∀ (n : Nat) (p : List Ins) (i : Ins), loopsF n (p ++ [i]) = loopsF n p ++ (if i.op = 16 then [(i.n, ((n + p.length : Nat) : Int))] else [])
  | n, [], i => by simp only [List.nil_append, loopsF, List.length_nil, Nat.add_zero]
  | n, x :: r, i => by
      have h := loopsF_snoc (n + 1) r i
      simp only [List.cons_append, loopsF, h, List.length_cons]
      rw [show n + 1 + r.length = n + (r.length + 1) by omega]
      split <;> simp
theorem loopsF_take {p : List Ins} {j : Nat} {i : Ins} (h : p[j]? = some i) : loopsF 0 (p.take (j + 1)) = loopsF 0 (p.take j) ++ (if i.op = 16 then [(i.n, (j : Int))] else []) := by
  have hj := List.getElem?_eq_some_iff.1 h
  rw [List.take_succ_eq_append_getElem hj.1, hj.2, loopsF_snoc, List.length_take]
  have := hj.1
  rw [show 0 + min j p.length = j by omega]
theorem loopsF_get : ∀ (n : Nat) (p : List Ins) (a : Nat) (s : Int × Int), (loopsF n p)[a]? = some s → ∃ (j : Nat) (i : Ins), p[j]? = some i ∧ i.op = 16 ∧ s = (i.n, ((n + j : Nat) : Int))
  | n, [], a, s, h => by simp [loopsF] at h
  | n, x :: r, a, s, h => by
      unfold loopsF at h
      split at h
      · rename_i hx
        cases a with
        | zero => simp at h; exact ⟨0, x, rfl, hx, by rw [← h]; simp⟩
        | succ a =>
          simp at h
          obtain ⟨j, i, h1, h2, h3⟩ := loopsF_get (n + 1) r a s h
          exact ⟨j + 1, i, by simpa using h1, h2, by rw [h3, show n + 1 + j = n + (j + 1) by omega]⟩
      · obtain ⟨j, i, h1, h2, h3⟩ := loopsF_get (n + 1) r a s h
        exact ⟨j + 1, i, by simpa using h1, h2, by rw [h3, show n + 1 + j = n + (j + 1) by omega]⟩
theorem loopsF_inc : ∀ (n : Nat) (p : List Ins) (a b : Nat) (s t : Int × Int), a < b → (loopsF n p)[a]? = some s → (loopsF n p)[b]? = some t → s.2 < t.2
  | n, [], a, b, s, t, _, h, _ => by simp [loopsF] at h
  | n, x :: r, a, b, s, t, hab, h, h' => by
      unfold loopsF at h h'
      split at h
      · rename_i hx
        rw [if_pos hx] at h'
        cases b with
        | zero => omega
        | succ b =>
          simp at h'
          cases a with
          | zero =>
            simp at h
            obtain ⟨j, i, _, _, h3⟩ := loopsF_get (n + 1) r b t h'
            rw [← h, h3]; simp only; omega
          | succ a =>
            simp at h
            exact loopsF_inc (n + 1) r a b s t (by omega) h h'
      · rename_i hx
        rw [if_neg hx] at h'
        exact loopsF_inc (n + 1) r a b s t hab h h'
theorem loopsF_len : ∀ (n : Nat) (p : List Ins), (loopsF n p).length ≤ p.length
  | _, [] => by simp [loopsF]
  | n, x :: r => by
      have := loopsF_len (n + 1) r
      unfold loopsF
      split <;> simp <;> omega
theorem In_any (a b pc : Int) (w : World) : Calls Tryz.prog 99 #[.agg #[.int .i64 a, .int .i64 b], .int .i64 pc] w fun e w' => e = .returned (.bool (hasL (a, b) pc)) ∧ Chg [] w w' := by
  obtain ⟨r, hr⟩ : ∃ r, hasL (a, b) pc = r := ⟨_, rfl⟩
  have HR := Lib.hid hr
  have HC : Hid (Chg [] w (w.alloc (.cells #[.int .i64 a, .int .i64 b] 117))) := Lib.hid ((Chg.refl [] w).alloc _)
  rw [hr]
  clear hr
  by_cases h1 : a ≤ pc
  · by_cases h2 : pc ≤ b
    · obtain rfl : true = r := by rw [← HR.out]; simp [hasL, h1, h2]
      go_enter Tryz.func99, Tryz.ntmps99
      go_wp2
      go_ret
      exact ⟨by first | rfl | simp [h1, h2], HC.out⟩
    · obtain rfl : false = r := by rw [← HR.out]; simp [hasL, h1, h2]
      go_enter Tryz.func99, Tryz.ntmps99
      go_wp2
      go_ret
      exact ⟨by first | rfl | simp [h1, h2], HC.out⟩
  · obtain rfl : false = r := by rw [← HR.out]; simp [hasL, h1]
    go_enter Tryz.func99, Tryz.ntmps99
    go_wp2
    go_ret
    exact ⟨by first | rfl | simp [h1], HC.out⟩
def lapH (a1 a2 b1 b2 : Int) : Prop := 0 ≤ a1 ∧ a1 < b1 ∧ b1 ≤ a2 ∧ a2 < b2 ∧ b2 < 64
set_option maxHeartbeats 2000000 in
theorem Overlap_any (a1 a2 b1 b2 : Int) (w : World) : Calls Tryz.prog 98 #[.agg #[.int .i64 a1, .int .i64 a2], .agg #[.int .i64 b1, .int .i64 b2]] w fun e w' => BoolP (fun r => r = false → ¬ lapH a1 a2 b1 b2) e ∧ Chg [] w w' := by
  obtain ⟨W2, hW2⟩ : ∃ W2, (w.alloc (.cells #[.int .i64 a1, .int .i64 a2] 117)).alloc (.cells #[.int .i64 b1, .int .i64 b2] 117) = W2 := ⟨_, rfl⟩
  have HC2 : Hid (Chg [] w W2) := Lib.hid (by rw [← hW2]; exact ((Chg.refl [] w).alloc _).alloc _)
  have HBA : Hid (Blk W2 w.heap.size #[.int .i64 a1, .int .i64 a2] 117) := Lib.hid (by rw [← hW2]; exact (Blk.new w _ _).alloc _)
  have HBB : Hid (Blk W2 (w.heap.size + 1) #[.int .i64 b1, .int .i64 b2] 117) := Lib.hid (by
    rw [← hW2]
    have := Blk.new (w.alloc (.cells #[.int .i64 a1, .int .i64 a2] 117)) #[.int .i64 b1, .int .i64 b2] 117
    rwa [show (w.alloc (.cells #[.int .i64 a1, .int .i64 a2] 117)).heap.size = w.heap.size + 1 by simp] at this)
  have KEEP : Hid (∀ V, Chg [] W2 V → ((V.cell? ⟨w.heap.size, 0, none⟩ = some (.int .i64 a1) ∧ V.cell? ⟨w.heap.size, 1, none⟩ = some (.int .i64 a2)) ∧ V.cell? ⟨w.heap.size + 1, 0, none⟩ = some (.int .i64 b1) ∧ V.cell? ⟨w.heap.size + 1, 1, none⟩ = some (.int .i64 b2)) ∧ Hid (Chg [] W2 V)) :=
    Lib.hid fun V h => ⟨⟨⟨(HBA.out.keep h (by simp)).cell rfl, (HBA.out.keep h (by simp)).cell rfl⟩, (HBB.out.keep h (by simp)).cell rfl, (HBB.out.keep h (by simp)).cell rfl⟩, Lib.hid h⟩
  go_enter Tryz.func98, Tryz.ntmps98
  go_wp2_with fail
  try rw [hW2]
  clear hW2
  go_loopw [5, 6, 7, 8] (fun x y z p wr => ∃ (i : Nat) (X Y Z : Int), i ≤ 64 ∧ x = .int .i64 X ∧ y = .int .i64 Y ∧ z = .int .i64 Z ∧ p = .int .i64 (i : Int) ∧ Hid ((0 ≤ X ∧ X ≤ i) ∧ (0 ≤ Y ∧ Y ≤ i) ∧ 0 ≤ Z ∧ Z ≤ i) ∧ Hid (lapH a1 a2 b1 b2 → (b1 < i → 0 < X) ∧ (a1 < i → 0 < Y) ∧ (b2 < i → 0 < Z)) ∧ Hid (Chg [] W2 wr)) (fun _ _ _ p _ => 64 - (intOf p).toNat)
  case atStart => exact ⟨0, 0, 0, 0, by omega, rfl, rfl, rfl, rfl, Lib.hid (by omega), Lib.hid (fun h => by unfold lapH at h; omega), Lib.hid (Chg.refl _ _)⟩
  case round =>
    obtain ⟨i, X, Y, Z, hi, rfl, rfl, rfl, rfl, HN, HG, HJ⟩ := hrel
    by_cases hlt : i < 64
    · have HLT := Lib.hid hlt
      have m1 : (i : Int) < 64 := by omega
      obtain ⟨⟨⟨qa0, qa1⟩, qb0, qb1⟩, HJ0⟩ := KEEP.out wr HJ.out
      have kx : IntKind.i64.wrap (X + 1) = X + 1 := by rw [IntKind.wrap_i64]; have := HN.out; omega
      have ky : IntKind.i64.wrap (Y + 1) = Y + 1 := by rw [IntKind.wrap_i64]; have := HN.out; omega
      have kz : IntKind.i64.wrap (Z + 1) = Z + 1 := by rw [IntKind.wrap_i64]; have := HN.out; omega
      have ki : IntKind.i64.wrap ((i : Int) + 1) = (i : Int) + 1 := by rw [IntKind.wrap_i64]; omega
      have hA := fun V (hV : Hid (Chg [] W2 V)) => (In_any a1 a2 i V).mono fun e w' (h : _ ∧ Chg [] V w') => (⟨h.1, KEEP.out w' (hV.out.trans h.2)⟩ : e = .returned (.bool (hasL (a1, a2) i)) ∧ _)
      have hB := fun V (hV : Hid (Chg [] W2 V)) => (In_any b1 b2 i V).mono fun e w' (h : _ ∧ Chg [] V w') => (⟨h.1, KEEP.out w' (hV.out.trans h.2)⟩ : e = .returned (.bool (hasL (b1, b2) i)) ∧ _)
      obtain ⟨ra, hra⟩ : ∃ r, hasL (a1, a2) i = r := ⟨_, rfl⟩
      obtain ⟨rb, hrb⟩ : ∃ r, hasL (b1, b2) i = r := ⟨_, rfl⟩
      rw [hra] at hA
      rw [hrb] at hB
      have HA := Lib.hid hA
      have HB := Lib.hid hB
      have HRA := Lib.hid hra
      have HRB := Lib.hid hrb
      clear hA hB hra hrb hi hlt
      cases ra <;> cases rb
      all_goals
        go_wp2_with (first
          | (go_at_call 99; with_reducible refine (HA.out _ (by with_reducible assumption)).mono ?_; rintro e V1 ⟨rfl, ⟨⟨qa0, qa1⟩, qb0, qb1⟩, HJ0⟩)
          | (go_at_call 99; with_reducible refine (HB.out _ (by with_reducible assumption)).mono ?_; rintro e V1 ⟨rfl, ⟨⟨qa0, qa1⟩, qb0, qb1⟩, HJ0⟩))
        go_roundw
      all_goals try (case measure => have := HLT.out; simp [intOf]; omega)
      all_goals
        case rel =>
          refine ⟨i + 1, _, _, _, by have := HLT.out; omega, rfl, rfl, rfl, by go_num, Lib.hid (by have := HN.out; omega), Lib.hid (fun h => ?_), HJ0⟩
          have h1 := HG.out h
          have h2 := HRA.out
          have h3 := HRB.out
          have h4 := HN.out
          unfold lapH at h
          simp only [hasL, decide_eq_true_eq, decide_eq_false_iff_not] at h2 h3
          omega
    · obtain rfl : i = 64 := by omega
      by_cases hx : 0 < X
      · by_cases hy : 0 < Y
        · by_cases hz : 0 < Z
          · go_wp2_with fail
            go_ret
            exact ⟨.mk true (by first | rfl | simp [hx, hy, hz]) (by simp), HC2.out.trans HJ.out⟩
          · go_wp2_with fail
            go_ret
            exact ⟨.mk false (by first | rfl | simp [hx, hy, hz]) (fun _ h => by have h1 := HG.out h; unfold lapH at h; omega), HC2.out.trans HJ.out⟩
        · go_wp2_with fail
          go_ret
          exact ⟨.mk false (by first | rfl | simp [hx, hy]) (fun _ h => by have h1 := HG.out h; unfold lapH at h; omega), HC2.out.trans HJ.out⟩
      · go_wp2_with fail
        go_ret
        exact ⟨.mk false (by first | rfl | simp [hx]) (fun _ h => by have h1 := HG.out h; unfold lapH at h; omega), HC2.out.trans HJ.out⟩
set_option maxHeartbeats 2000000 in
theorem rLoops_any (sa : Option Addr) (sc : Nat) (p : List Ins) (W : World) (hr : ReadsC W (.slice sa p.length sc) p) (hlen : p.length ≤ 64) :
    Calls Tryz.prog 97 #[.slice sa p.length sc] W fun e W' => ∃ a c, e = .returned (.slice a (loopsF 0 p).length c) ∧ OwnS W' W.heap.size (.slice a (loopsF 0 p).length c) (loopsF 0 p) ∧ Chg [] W W' := by
  obtain ⟨-, b1, o1, hx1, hc1⟩ := code_at hr
  have HX1 := Lib.hid hx1
  have HC1 := Lib.hid hc1
  have HW := Lib.hid hr.2
  have HLEN := Lib.hid hlen
  obtain ⟨i0, hi0, hz0, hz1, hz2⟩ := info_parts infoSpan
  have HI := Lib.hid (And.intro hi0 (And.intro hz0 (And.intro hz1 hz2)))
  clear hx1 hc1 hr hlen hi0 hz0 hz1 hz2
  go_enter Tryz.func97, Tryz.ntmps97
  go_wp2
  go_loopw [3, 8] (fun o i wr => ∃ (j : Nat) (a : Option Addr) (c : Nat), j ≤ p.length ∧ i = .int .i64 j ∧ o = .slice a (loopsF 0 (p.take j)).length c ∧ Hid (OwnS wr W.heap.size (.slice a (loopsF 0 (p.take j)).length c) (loopsF 0 (p.take j))) ∧ Hid (Chg [] W wr)) (fun _ i _ => p.length - (intOf i).toNat)
  case atStart => exact ⟨0, none, 0, Nat.zero_le _, rfl, rfl, Lib.hid (World.ownsRow_nil ..), Lib.hid (Chg.refl _ _)⟩
  case round =>
    obtain ⟨j, a, c, hj, rfl, rfl, HO, HJ⟩ := hrel
    by_cases hlt : j < p.length
    · have HLT := Lib.hid hlt
      have g1 := HX1.out j hlt
      obtain ⟨⟨op, ia, ib, ic, nn⟩, htk⟩ : ∃ t, p[j]? = some t := ⟨_, List.getElem?_eq_getElem hlt⟩
      obtain ⟨q0, q1, q2, q3, q4⟩ := HC1.out wr HJ.out j _ htk
      have kn := wrap64_u32 (HW.out _ (List.mem_of_getElem? htk))
      simp only at q0 q1 q2 q3 q4 kn
      have HSN := Lib.hid (loopsF_take htk)
      have hll := loopsF_len 0 (p.take j)
      rw [List.length_take] at hll
      obtain ⟨xs, hxs⟩ : ∃ xs, loopsF 0 (p.take j) = xs := ⟨_, rfl⟩
      rw [hxs] at HO HSN hll
      rw [hxs]
      have HLL : Hid (xs.length ≤ 64) := Lib.hid (by have := HLEN.out; omega)
      have k8 : IntKind.i64.wrap ((j : Int) + 1) = (j : Int) + 1 := by rw [IntKind.wrap_i64]; have := HLEN.out; omega
      have HBA := Lib.hid (Blk.new wr #[.int .i64 op, .int .i64 ia, .int .i64 ib, .int .i64 ic, .int .u32 nn] 53)
      clear htk hj hll hxs hlt
      by_cases c1 : op = 16
      · subst c1
        simp only [if_pos] at HSN
        have HOA : Hid (OwnS ((wr.alloc (.cells #[.int .i64 16, .int .i64 ia, .int .i64 ib, .int .i64 ic, .int .u32 nn] 53)).alloc (.cells #[.int .i64 nn, .int .i64 (j : Int)] 117)) W.heap.size (.slice a xs.length c) xs) := Lib.hid (own_keep HO.out (((Chg.refl [] wr).alloc _).alloc _) (by simp))
        have HBN : Hid (Blk ((wr.alloc (.cells #[.int .i64 16, .int .i64 ia, .int .i64 ib, .int .i64 ic, .int .u32 nn] 53)).alloc (.cells #[.int .i64 nn, .int .i64 (j : Int)] 117)) (wr.heap.size + 1) #[.int .i64 nn, .int .i64 (j : Int)] 117) := Lib.hid (by
          have := Blk.new (wr.alloc (.cells #[.int .i64 16, .int .i64 ia, .int .i64 ib, .int .i64 ic, .int .u32 nn] 53)) #[.int .i64 nn, .int .i64 (j : Int)] 117
          rwa [show (wr.alloc (.cells #[.int .i64 16, .int .i64 ia, .int .i64 ib, .int .i64 ic, .int .u32 nn] 53)).heap.size = wr.heap.size + 1 by simp] at this)
        obtain ⟨hi0, hz0, hz1, hz2⟩ := HI.out
        go_wp2_with (first | (at_builtin; refine wpList_append_row (o := ⟨some 23, _, _, _, _, _⟩) rfl (.tmp 16) (.tmp 22) 113 rfl W.heap.size 117 i0 (.agg #[.int .i64 0, .int .i64 0]) 2 16 Tryz.underlying113 hi0 hz0 hz1 hz2 rfl (by decide) (.slice a xs.length c) xs.length (xs.flatMap spc) rfl HOA.out (wr.heap.size + 1) [.int .i64 nn, .int .i64 (j : Int)] rfl rfl (fun j u hu => HBN.out.cell (by rw [← Array.getElem?_toList]; exact hu)) ?c2 ?c3 ?c4 ?c5 ?_))
        case c2 => simp [Value.oneCell']
        case c3 => have := HLL.out; unfold maxLen; omega
        case c4 => have := HLL.out; omega
        case c5 => have := HJ.out.size; simp; omega
        intro v' w2 hown' hgrow _
        have HOW := Lib.hid (OwnS.snoc hown')
        have HGR : Hid (Chg [] W w2) := Lib.hid (((HJ.out.alloc _).alloc _).grown hgrow (fun q hq => .inr (World.ownsRow.lt HOA.out q hq).1))
        obtain ⟨a2, c2, rfl⟩ := own_open hown'
        clear hown' hgrow
        go_wp2
        have hltj := HLT.out
        go_roundw
        case rel => exact ⟨j + 1, a2, c2, by omega, by go_num, by rw [HSN.out]; simp, Lib.hid (by rw [HSN.out]; simpa using HOW.out), HGR⟩
        case measure => simp [intOf]; omega
      · have c1' : (op == 16) = false := by simpa using c1
        simp only [if_neg c1, List.append_nil] at HSN
        clear c1
        go_wp2
        have hltj := HLT.out
        go_roundw
        case rel => exact ⟨j + 1, a, c, by omega, by go_num, by rw [HSN.out], Lib.hid (by rw [HSN.out]; exact own_keep HO.out ((Chg.refl [] _).alloc _) (by simp)), Lib.hid (HJ.out.alloc _)⟩
        case measure => simp [intOf]; omega
    · obtain rfl : p.length = j := by omega
      clear hlt hj
      rw [List.take_length] at HO
      rw [List.take_length]
      go_wp2
      go_ret
      exact ⟨_, _, rfl, HO.out, HJ.out⟩
end Go.Proofs.YtkedegbpkkgeaaaGreat.tf
/- TopFits: the reference's flow: Check. -/
namespace Go.Proofs.YtkedegbpkkgeaaaGreat.tf
open Go Go.RowKit Go.Proofs.YtkedegbpkkgeaaaGreat.kit Go.Proofs.YtkedegbpkkgeaaaGreat.obj Go.Proofs.YtkedegbpkkgeaaaGreat.mem Go.Proofs.YtkedegbpkkgeaaaGreat.lay Go.Proofs.YtkedegbpkkgeaaaGreat.isa
set_option linter.unusedVariables false
set_option linter.unusedSimpArgs false
set_option maxRecDepth 20000

def leadP (p : List Ins) (k : Nat) (i : Ins) : Prop := (i.op = 16 → i.n < (k : Int)) ∧ (i.op = 14 ∨ i.op = 15 → (k : Int) < i.n ∧ i.n < p.length)
def upto (p : List Ins) (P : Nat → Ins → Prop) (j : Nat) : Prop := ∀ (k : Nat) (i : Ins), k < j → p[k]? = some i → P k i
theorem upto.zero (p : List Ins) (P : Nat → Ins → Prop) : upto p P 0 := fun k i h => by omega
theorem upto.succ {p : List Ins} {P : Nat → Ins → Prop} {j : Nat} {x : Ins} (h : upto p P j) (hx : p[j]? = some x) (hP : P j x) : upto p P (j + 1) := fun k i hk hi => by
  by_cases e : k = j
  · subst e; rw [hx] at hi; cases hi; exact hP
  · exact h k i (by omega) hi
def lapP (L : List (Int × Int)) (a b : Nat) : Prop := ∀ s t, L[a]? = some s → L[b]? = some t → ¬ lapH s.1 s.2 t.1 t.2
def crossP (L : List (Int × Int)) (k : Nat) (i : Ins) : Prop := i.op = 14 ∨ i.op = 15 → ∀ s ∈ L, hasL s k = hasL s i.n
theorem u32_nn {n : Int} (h : (Lit.int .u32 n).wf = true) : 0 ≤ n := by
  simp [Lit.wf, IntKind.min, IntKind.max, IntKind.signed, IntKind.bits] at h
  omega
theorem wrapI_u32 {n : Int} (h : (Lit.int .u32 n).wf = true) : IntKind.i64.wrap n = n := by
  simp [Lit.wf, IntKind.min, IntKind.max, IntKind.signed, IntKind.bits] at h
  rw [IntKind.wrap_i64]
  omega
theorem fine_of {p : List Ins} (hu : ∀ i ∈ p, (Lit.int .u32 i.n).wf = true) (hl : 1 ≤ p.length ∧ p.length ≤ 64) (h1 : upto p (fun _ i => rightI i = true) p.length) (h2 : upto p (leadP p) p.length) (h3 : ∀ b, b < (loopsF 0 p).length → ∀ a, a < b → lapP (loopsF 0 p) a b)
    (h4 : upto p (crossP (loopsF 0 p)) p.length) {x : Ins} (hx : p[p.length - 1]? = some x) (h5 : x.op = 21) : FineP p := by
  have hlt : ∀ (j : Nat) (i : Ins), p[j]? = some i → j < p.length := fun j i h => (List.getElem?_eq_some_iff.1 h).1
  have hw : ∀ i ∈ p, rightI i = true := fun i hi => by
    obtain ⟨k, hk⟩ := List.mem_iff_getElem?.1 hi
    exact h1 k i (hlt k i hk) hk
  refine ⟨hl, hw, fun j i h => h2 j i (hlt j i h) h, fun a b s t hab ha hb => ?_, fun j i h ho => h4 j i (hlt j i h) h ho, x, hx, h5⟩
  have hb2 := (List.getElem?_eq_some_iff.1 hb).1
  have hn := h3 b hb2 a hab s t ha hb
  have hi := loopsF_inc 0 p a b s t hab ha hb
  obtain ⟨j, i, e1, e2, rfl⟩ := loopsF_get 0 p a s ha
  obtain ⟨j', i', e1', e2', rfl⟩ := loopsF_get 0 p b t hb
  have h63 := hlt j' i' e1'
  have h0 : 0 ≤ i.n := u32_nn (hu i (List.mem_of_getElem? e1))
  unfold lapH at hn
  simp only at hn hi ⊢
  omega
set_option maxHeartbeats 16000000 in
theorem rCheck_any (sa : Option Addr) (sc : Nat) (p : List Ins) (W : World) (hr : ReadsC W (.slice sa p.length sc) p) :
    Calls Tryz.prog 68 #[.slice sa p.length sc] W fun e W' => CodeI (fun x => x = 0 → FineP p) e ∧ Chg [] W W' := by
  obtain ⟨-, b1, o1, hx1, hc1⟩ := code_at hr
  have HX1 := Lib.hid hx1
  have HC1 := Lib.hid hc1
  have HW := Lib.hid hr.2
  have HRD := Lib.hid hr
  clear hx1 hc1 hr
  by_cases h0 : p.length < 1
  · have m0 : (p.length : Int) < 1 := by omega
    go_enter Tryz.func68, Tryz.ntmps68
    go_wp2_with fail
    go_ret2
    exact ⟨.mk _ _ rfl (fun h => absurd h (by decide)), Chg.refl _ _⟩
  by_cases h64 : 64 < p.length
  · have m0 : ¬ (p.length : Int) < 1 := by omega
    have m1 : (64 : Int) < (p.length : Int) := by omega
    go_enter Tryz.func68, Tryz.ntmps68
    go_wp2_with fail
    go_ret2
    exact ⟨.mk _ _ rfl (fun h => absurd h (by decide)), Chg.refl _ _⟩
  have m0 : ¬ (p.length : Int) < 1 := by omega
  have m1 : ¬ (64 : Int) < (p.length : Int) := by omega
  have HLEN : Hid (1 ≤ p.length ∧ p.length ≤ 64) := Lib.hid (by omega)
  clear h0 h64
  go_enter Tryz.func68, Tryz.ntmps68
  go_wp2_with fail
  clear m0 m1
  go_loopw [26] (fun i wr => ∃ j : Nat, j ≤ p.length ∧ i = .int .i64 j ∧ Hid (upto p (fun _ i => rightI i = true) j) ∧ Hid (Chg [] W wr)) (fun i _ => p.length - (intOf i).toNat)
  case atStart => exact ⟨0, Nat.zero_le _, rfl, Lib.hid (upto.zero _ _), Lib.hid (Chg.refl _ _)⟩
  case round =>
    obtain ⟨j, hj, rfl, HG, HJ⟩ := hrel
    by_cases hlt : j < p.length
    · have HLT := Lib.hid hlt
      have g1 := HX1.out j hlt
      obtain ⟨⟨op, ia, ib, ic, nn⟩, htk⟩ : ∃ t, p[j]? = some t := ⟨_, List.getElem?_eq_getElem hlt⟩
      obtain ⟨q0, q1, q2, q3, q4⟩ := HC1.out wr HJ.out j _ htk
      have HRR := Lib.hid (fun V => rRight_any op ia ib ic nn (HW.out _ (List.mem_of_getElem? htk)) V)
      simp only at q0 q1 q2 q3 q4
      have k8 : IntKind.i64.wrap ((j : Int) + 1) = (j : Int) + 1 := by rw [IntKind.wrap_i64]; have := HLEN.out; omega
      obtain ⟨g, hg⟩ : ∃ g, rightI ⟨op, ia, ib, ic, nn⟩ = g := ⟨_, rfl⟩
      rw [hg] at HRR
      have HGG := Lib.hid hg
      have HK := Lib.hid htk
      clear htk hj hlt hg
      cases g
      · go_wp2_with (go_at_call 96; refine (HRR.out _).mono ?_; rintro e w1 ⟨rfl, hc1⟩; have HCX := Lib.hid ((HJ.out.alloc _).trans hc1); clear hc1)
        go_ret2
        exact ⟨.mk _ _ rfl (fun h => absurd h (by decide)), HCX.out⟩
      · go_wp2_with (go_at_call 96; refine (HRR.out _).mono ?_; rintro e w1 ⟨rfl, hc1⟩; have HCX := Lib.hid ((HJ.out.alloc _).trans hc1); clear hc1)
        have hltj := HLT.out
        go_roundw
        case rel => exact ⟨j + 1, by omega, by go_num, Lib.hid (HG.out.succ HK.out HGG.out), HCX⟩
        case measure => simp [intOf]; omega
    · obtain rfl : p.length = j := by omega
      have HG1 := HG
      clear hlt hj HG
      obtain ⟨wa, hwa⟩ : ∃ x : World, x = wr := ⟨_, rfl⟩
      go_wp2_with fail
      go_loopw [38] (fun i wr => ∃ j : Nat, j ≤ p.length ∧ i = .int .i64 j ∧ Hid (upto p (leadP p) j) ∧ Hid (Chg [] W wr)) (fun i _ => p.length - (intOf i).toNat)
      case atStart => exact ⟨0, Nat.zero_le _, rfl, Lib.hid (upto.zero _ _), HJ⟩
      case round =>
        clear HJ hwa
        obtain ⟨j, hj, rfl, HG, HJ⟩ := hrel
        by_cases hlt : j < p.length
        · have HLT := Lib.hid hlt
          have g1 := HX1.out j hlt
          obtain ⟨⟨op, ia, ib, ic, nn⟩, htk⟩ : ∃ t, p[j]? = some t := ⟨_, List.getElem?_eq_getElem hlt⟩
          obtain ⟨q0, q1, q2, q3, q4⟩ := HC1.out wr HJ.out j _ htk
          have kn := wrap64_u32 (HW.out _ (List.mem_of_getElem? htk))
          simp only at q0 q1 q2 q3 q4 kn
          have k8 : IntKind.i64.wrap ((j : Int) + 1) = (j : Int) + 1 := by rw [IntKind.wrap_i64]; have := HLEN.out; omega
          have HK := Lib.hid htk
          clear htk hj hlt
          have hop : op = 16 ∨ op = 14 ∨ op = 15 ∨ (op ≠ 16 ∧ op ≠ 14 ∧ op ≠ 15) := by omega
          rcases hop with rfl | rfl | rfl | ⟨n1, n2, n3⟩
          · by_cases c1 : (j : Int) ≤ nn
            · go_wp2_with fail
              go_ret2
              exact ⟨.mk _ _ rfl (fun h => absurd h (by decide)), HJ.out.alloc _⟩
            · have HP : Hid (leadP p j ⟨16, ia, ib, ic, nn⟩) := Lib.hid ⟨fun _ => by simp only; omega, fun h => by simp at h⟩
              go_wp2_with fail
              have hltj := HLT.out
              go_roundw
              case rel => exact ⟨j + 1, by omega, by go_num, Lib.hid (HG.out.succ HK.out HP.out), Lib.hid (HJ.out.alloc _)⟩
              case measure => simp [intOf]; omega
          · by_cases c1 : nn ≤ (j : Int)
            · go_wp2_with fail
              go_ret2
              exact ⟨.mk _ _ rfl (fun h => absurd h (by decide)), HJ.out.alloc _⟩
            · by_cases c2 : (p.length : Int) ≤ nn
              · go_wp2_with fail
                go_ret2
                exact ⟨.mk _ _ rfl (fun h => absurd h (by decide)), HJ.out.alloc _⟩
              · have HP : Hid (leadP p j ⟨14, ia, ib, ic, nn⟩) := Lib.hid ⟨fun h => by simp at h, fun _ => by simp only; omega⟩
                go_wp2_with fail
                have hltj := HLT.out
                go_roundw
                case rel => exact ⟨j + 1, by omega, by go_num, Lib.hid (HG.out.succ HK.out HP.out), Lib.hid (HJ.out.alloc _)⟩
                case measure => simp [intOf]; omega
          · by_cases c1 : nn ≤ (j : Int)
            · go_wp2_with fail
              go_ret2
              exact ⟨.mk _ _ rfl (fun h => absurd h (by decide)), HJ.out.alloc _⟩
            · by_cases c2 : (p.length : Int) ≤ nn
              · go_wp2_with fail
                go_ret2
                exact ⟨.mk _ _ rfl (fun h => absurd h (by decide)), HJ.out.alloc _⟩
              · have HP : Hid (leadP p j ⟨15, ia, ib, ic, nn⟩) := Lib.hid ⟨fun h => by simp at h, fun _ => by simp only; omega⟩
                go_wp2_with fail
                have hltj := HLT.out
                go_roundw
                case rel => exact ⟨j + 1, by omega, by go_num, Lib.hid (HG.out.succ HK.out HP.out), Lib.hid (HJ.out.alloc _)⟩
                case measure => simp [intOf]; omega
          · have HP : Hid (leadP p j ⟨op, ia, ib, ic, nn⟩) := Lib.hid ⟨fun h => absurd h n1, fun h => by rcases h with h | h; exact absurd h n2; exact absurd h n3⟩
            have d1 : (op == 16) = false := by simpa using n1
            have d2 : (op == 14) = false := by simpa using n2
            have d3 : (op == 15) = false := by simpa using n3
            clear n1 n2 n3
            go_wp2_with fail
            have hltj := HLT.out
            go_roundw
            case rel => exact ⟨j + 1, by omega, by go_num, Lib.hid (HG.out.succ HK.out HP.out), Lib.hid (HJ.out.alloc _)⟩
            case measure => simp [intOf]; omega
        · obtain rfl : p.length = j := by omega
          have HG2 := HG
          have HLP := Lib.hid (fun V (hV : Chg [] W V) => rLoops_any sa sc p V (HRD.out.chg hV) HLEN.out.2)
          clear hlt hj HG
          go_wp2_with (go_at_call 97; refine (HLP.out _ HJ.out).mono ?_; rintro e w2 ⟨la, lc, rfl, hol, hcl⟩; have HCL : Hid (Chg [] W w2) := Lib.hid (HJ.out.trans hcl); have HOL := Lib.hid hol; clear hol hcl)
          obtain ⟨LL, hLL⟩ : ∃ x, loopsF 0 p = x := ⟨_, rfl⟩
          have HLL := Lib.hid hLL
          rw [hLL] at HOL
          rw [hLL]
          obtain ⟨-, b2, o2, hx2, hc2⟩ := spans_at (OwnS.reads HOL.out)
          have HX2 := Lib.hid hx2
          have HC2 := Lib.hid hc2
          have HLN : Hid (LL.length ≤ 64) := Lib.hid (by have h1 := loopsF_len 0 p; have h2 := HLEN.out; rw [HLL.out] at h1; omega)
          clear HLP HJ hLL hx2 hc2
          go_loopw [81] (fun i wr => ∃ k : Nat, k ≤ LL.length ∧ i = .int .i64 k ∧ Hid (∀ b, b < k → ∀ a, a < b → lapP LL a b) ∧ Hid (Chg [] w2 wr)) (fun i _ => LL.length - (intOf i).toNat)
          case atStart => exact ⟨0, Nat.zero_le _, rfl, Lib.hid (fun b h => by omega), Lib.hid (Chg.refl _ _)⟩
          case round =>
            obtain ⟨k, hk, rfl, HG, HJ⟩ := hrel
            by_cases hlt : k < LL.length
            · have HLT := Lib.hid hlt
              obtain ⟨t, htk⟩ : ∃ t, LL[k]? = some t := ⟨_, List.getElem?_eq_getElem hlt⟩
              have g2 := HX2.out k hlt
              have HT := Lib.hid htk
              have k9 : IntKind.i64.wrap ((k : Int) + 1) = (k : Int) + 1 := by rw [IntKind.wrap_i64]; have := HLN.out; omega
              have mk : (k : Int) < (LL.length : Int) := by omega
              clear htk hk hlt
              go_wp2_with fail
              clear mk
              go_loopw [11] (fun i wr => ∃ j : Nat, j ≤ k ∧ i = .int .i64 j ∧ Hid (∀ a, a < j → lapP LL a k) ∧ Hid (Chg [] w2 wr)) (fun i _ => k - (intOf i).toNat)
              case atStart => exact ⟨0, Nat.zero_le _, rfl, Lib.hid (fun b h => by omega), HJ⟩
              case round =>
                clear HJ
                obtain ⟨j, hj, rfl, HGI, HJ⟩ := hrel
                by_cases hlj : j < k
                · have HLJ := Lib.hid hlj
                  have hjl : j < LL.length := by have := HLT.out; omega
                  obtain ⟨s, hsk⟩ : ∃ t, LL[j]? = some t := ⟨_, List.getElem?_eq_getElem hjl⟩
                  have g1 := HX2.out j hjl
                  have HS := Lib.hid hsk
                  have k8 : IntKind.i64.wrap ((j : Int) + 1) = (j : Int) + 1 := by rw [IntKind.wrap_i64]; have := HLN.out; omega
                  have m3 : (j : Int) < (k : Int) := by omega
                  have KEEP : Hid (∀ V, Chg [] w2 V → (fun V : World => SC V b2 (o2 + j * 2) s ∧ SC V b2 (o2 + k * 2) t ∧ Hid (Chg [] w2 V)) V) := Lib.hid (fun V hV => ⟨HC2.out V hV j _ HS.out, HC2.out V hV k _ HT.out, Lib.hid hV⟩)
                  obtain ⟨s1, s2⟩ := s
                  obtain ⟨t1, t2⟩ := t
                  have HOV := Lib.hid (fun V => Overlap_any s1 s2 t1 t2 V)
                  clear hsk hjl hj hlj
                  go_wp2_with fail
                  have hHeld : (fun V : World => SC V b2 (o2 + j * 2) (s1, s2) ∧ SC V b2 (o2 + k * 2) (t1, t2) ∧ Hid (Chg [] w2 V)) (World.drew wr) := KEEP.out _ HJ.out.drew
                  refine wp_region_plan (fun V : World => SC V b2 (o2 + j * 2) (s1, s2) ∧ SC V b2 (o2 + k * 2) (t1, t2) ∧ Hid (Chg [] w2 V)) [(0, true, some 89), (1, true, some 90), (2, true, some 91), (3, true, some 92), (4, true, some 93), (5, true, some 94), (6, true, some 95), (7, true, some 96), (8, false, some 97)] (by kernel_rfl) (by kernel_rfl) (by kernel_rfl) (by kernel_rfl) (fun d c a v w h => by cases d <;> exact h) hHeld ?_
                  repeat (first
                    | (refine planWp_read (v := ?_) rfl rfl ?_ ?_ ?_; rotate_left; (focus rfl); (focus (intro u hSw; (try dsimp only at hSw); obtain ⟨⟨y0, y1⟩, ⟨z0, z1⟩, -⟩ := hSw; simp only at y0 y1 z0 z1; go_simp; (try with_reducible rfl))); (try simp only [Act.put, List.setIfInBounds_toArray, List.set_cons_zero, List.set_cons_succ]))
                    | (refine planWp_skip rfl rfl ?_ ?_; (focus rfl); (try simp only [Act.put, List.setIfInBounds_toArray, List.set_cons_zero, List.set_cons_succ]))
                    | (refine planWp_leave rfl rfl ?_ hHeld ?_; (focus rfl); (try simp only [Act.put, List.setIfInBounds_toArray, List.set_cons_zero, List.set_cons_succ]))
                    | (refine planWp_do rfl rfl ?_ (fun K hK => ?_); (focus rfl); go_simp; (try go_wp2_with (go_at_call 98; refine (HOV.out _).mono ?_; rintro e w3 ⟨⟨r, rfl, hrf⟩, hc3⟩; have HCX := Lib.hid hc3; have HRF := Lib.hid hrf; clear hc3 hrf)); refine hK.out _ _ ?_ (fun hHeld2 => ?_); (focus exact KEEP.out _ (hHeld.2.2.out.trans HCX.out)); clear hK K hHeld; have hHeld := hHeld2; clear hHeld2; (try simp only [Act.put, List.setIfInBounds_toArray, List.set_cons_zero, List.set_cons_succ])))
                  refine planWp_nil ?_
                  obtain ⟨-, ⟨z0, z1⟩, hcz⟩ := hHeld
                  simp only at z0 z1
                  clear KEEP
                  cases r
                  · go_wp2_with fail
                    go_roundw
                    case rel => exact ⟨j + 1, by have := HLJ.out; omega, by go_num, Lib.hid (fun a ha => by
                        by_cases e : a = j
                        · subst e
                          intro s t hs ht
                          rw [HS.out] at hs
                          rw [HT.out] at ht
                          cases hs; cases ht
                          exact HRF.out (by first | rfl | trivial)
                        · exact HGI.out a (by omega)), hcz⟩
                    case measure => have := HLJ.out; simp [intOf]; omega
                  · go_wp2_with fail
                    go_ret2
                    exact ⟨.mk _ _ rfl (fun h => absurd h (by decide)), HCL.out.trans hcz.out⟩
                · obtain rfl : k = j := by omega
                  have m3 : ¬ (k : Int) < (k : Int) := by omega
                  clear hj hlj
                  go_wp2_with fail
                  have hltj := HLT.out
                  go_roundw
                  case rel => exact ⟨k + 1, by omega, by go_num, Lib.hid (fun b hb a ha => by
                    by_cases e : b = k
                    · subst e; exact HGI.out a ha
                    · exact HG.out b (by omega) a ha), HJ⟩
                  case measure => simp [intOf]; omega
            · obtain rfl : LL.length = k := by omega
              have HG3 := HG
              clear hlt hk HG
              go_wp2_with fail
              go_loopw [106] (fun i wr => ∃ j : Nat, j ≤ p.length ∧ i = .int .i64 j ∧ Hid (upto p (crossP LL) j) ∧ Hid (Chg [] w2 wr)) (fun i _ => p.length - (intOf i).toNat)
              case atStart => exact ⟨0, Nat.zero_le _, rfl, Lib.hid (upto.zero _ _), HJ⟩
              case round =>
                clear HJ
                obtain ⟨j, hj, rfl, HG, HJ⟩ := hrel
                by_cases hlt : j < p.length
                · have HLT := Lib.hid hlt
                  have g1 := HX1.out j hlt
                  obtain ⟨⟨op, ia, ib, ic, nn⟩, htk⟩ : ∃ t, p[j]? = some t := ⟨_, List.getElem?_eq_getElem hlt⟩
                  obtain ⟨q0, q1, q2, q3, q4⟩ := HC1.out wr (HCL.out.trans HJ.out) j _ htk
                  have kn := wrap64_u32 (HW.out _ (List.mem_of_getElem? htk))
                  have kn2 := wrapI_u32 (HW.out _ (List.mem_of_getElem? htk))
                  simp only at q0 q1 q2 q3 q4 kn kn2
                  have HKN := Lib.hid kn2
                  clear kn2
                  have k8 : IntKind.i64.wrap ((j : Int) + 1) = (j : Int) + 1 := by rw [IntKind.wrap_i64]; have := HLEN.out; omega
                  have HK := Lib.hid htk
                  have mj : (j : Int) < (p.length : Int) := by omega
                  clear htk hj hlt
                  have HBI := Lib.hid (Blk.new wr #[.int .i64 op, .int .i64 ia, .int .i64 ib, .int .i64 ic, .int .u32 nn] 53)
                  obtain ⟨wI, hwI⟩ : ∃ x, wr.alloc (.cells #[.int .i64 op, .int .i64 ia, .int .i64 ib, .int .i64 ic, .int .u32 nn] 53) = x := ⟨_, rfl⟩
                  obtain ⟨bi, hbi⟩ : ∃ x, wr.heap.size = x := ⟨_, rfl⟩
                  have HJI : Hid (Chg [] w2 wI) := Lib.hid (by rw [← hwI]; exact HJ.out.alloc _)
                  rw [hwI, hbi] at HBI
                  go_wp2_with fail
                  try rw [hwI]
                  try rw [hbi]
                  clear hwI hbi q0 q1 q2 q3 q4
                  go_loopw [113] (fun i wx => ∃ m : Nat, m ≤ LL.length ∧ i = .int .i64 m ∧ Hid (op = 14 ∨ op = 15 → ∀ s ∈ LL.take m, hasL s j = hasL s nn) ∧ Hid (Chg [] wI wx)) (fun i _ => LL.length - (intOf i).toNat)
                  case atStart => exact ⟨0, Nat.zero_le _, rfl, Lib.hid (fun _ => by simp), Lib.hid (Chg.refl _ _)⟩
                  case round =>
                    obtain ⟨m, hm, rfl, HGI, HJX⟩ := hrel
                    by_cases hlm : m < LL.length
                    · have HLM := Lib.hid hlm
                      obtain ⟨⟨s1, s2⟩, hsk⟩ : ∃ t, LL[m]? = some t := ⟨_, List.getElem?_eq_getElem hlm⟩
                      have g2 := HX2.out m hlm
                      obtain ⟨y0, y1⟩ := HC2.out wr (HJI.out.trans HJX.out) m _ hsk
                      simp only at y0 y1
                      have HS := Lib.hid hsk
                      have mm : (m : Int) < (LL.length : Int) := by omega
                      have k9 : IntKind.i64.wrap ((m : Int) + 1) = (m : Int) + 1 := by rw [IntKind.wrap_i64]; have := HLN.out; omega
                      have hB : Blk wr bi #[.int .i64 op, .int .i64 ia, .int .i64 ib, .int .i64 ic, .int .u32 nn] 53 := HBI.out.keep HJX.out (by simp)
                      have KEEP : Hid (∀ V, Chg [] (wr.alloc (.cells #[.int .i64 s1, .int .i64 s2] 117)) V → (fun V : World => (V.cell? ⟨bi, 0, none⟩ = some (.int .i64 op) ∧ V.cell? ⟨bi, 4, none⟩ = some (.int .u32 nn)) ∧ (V.cell? ⟨wr.heap.size, 0, none⟩ = some (.int .i64 s1) ∧ V.cell? ⟨wr.heap.size, 1, none⟩ = some (.int .i64 s2)) ∧ Hid (Chg [] wI V)) V) := Lib.hid (fun V hV =>
                        ⟨⟨((hB.alloc _).keep hV (by simp)).cell rfl, ((hB.alloc _).keep hV (by simp)).cell rfl⟩, ⟨((Blk.new wr _ _).keep hV (by simp)).cell rfl, ((Blk.new wr _ _).keep hV (by simp)).cell rfl⟩, Lib.hid ((HJX.out.alloc _).trans hV)⟩)
                      have HN := Lib.hid (fun (x : Int) (V : World) => In_any s1 s2 x V)
                      have HTS : Hid (LL.take (m + 1) = LL.take m ++ [(s1, s2)]) := Lib.hid (by rw [List.take_succ_eq_append_getElem hlm, (List.getElem?_eq_some_iff.1 hsk).2])
                      clear hsk hlm hm hB
                      have hop : op = 14 ∨ op = 15 ∨ (op ≠ 14 ∧ op ≠ 15) := by omega
                      rcases hop with rfl | rfl | ⟨n2, n3⟩
                      · obtain ⟨ra, hra⟩ : ∃ r, hasL (s1, s2) j = r := ⟨_, rfl⟩
                        obtain ⟨rb, hrb⟩ : ∃ r, hasL (s1, s2) nn = r := ⟨_, rfl⟩
                        have HA := Lib.hid (fun V => HN.out j V)
                        have HB0 := Lib.hid (fun V => HN.out nn V)
                        rw [hra] at HA
                        rw [hrb] at HB0
                        have HB := HB0
                        rw [← HKN.out] at HB
                        have HRA := Lib.hid hra
                        have HRB := Lib.hid hrb
                        clear hra hrb
                        go_wp2_with fail
                        have hHeld : (fun V : World => (V.cell? ⟨bi, 0, none⟩ = some (.int .i64 14) ∧ V.cell? ⟨bi, 4, none⟩ = some (.int .u32 nn)) ∧ (V.cell? ⟨wr.heap.size, 0, none⟩ = some (.int .i64 s1) ∧ V.cell? ⟨wr.heap.size, 1, none⟩ = some (.int .i64 s2)) ∧ Hid (Chg [] wI V)) (World.drew (wr.alloc (.cells #[.int .i64 s1, .int .i64 s2] 117))) := KEEP.out _ (Chg.refl _ _).drew
                        refine wp_region_plan (fun V : World => (V.cell? ⟨bi, 0, none⟩ = some (.int .i64 14) ∧ V.cell? ⟨bi, 4, none⟩ = some (.int .u32 nn)) ∧ (V.cell? ⟨wr.heap.size, 0, none⟩ = some (.int .i64 s1) ∧ V.cell? ⟨wr.heap.size, 1, none⟩ = some (.int .i64 s2)) ∧ Hid (Chg [] wI V)) [(0, true, some 117), (1, true, some 118), (2, true, some 119), (3, true, some 120), (4, true, some 121), (5, true, some 122), (6, true, some 123), (7, true, some 124), (8, true, some 125), (9, true, some 126), (10, true, some 127), (12, true, some 129), (13, true, some 130), (14, true, some 131), (15, true, some 132), (11, false, some 128), (16, false, some 133), (17, true, some 134), (18, true, some 135)] (by kernel_rfl) (by kernel_rfl) (by kernel_rfl) (by kernel_rfl) (fun d c a v w h => by cases d <;> exact h) hHeld ?_
                        repeat (first
                          | (refine planWp_read (v := ?_) rfl rfl ?_ ?_ ?_; rotate_left; (focus rfl); (focus (intro u hSw; (try dsimp only at hSw); obtain ⟨⟨z0, z1⟩, ⟨z2, z3⟩, -⟩ := hSw; go_simp; (try with_reducible rfl))); (try simp only [Act.put, List.setIfInBounds_toArray, List.set_cons_zero, List.set_cons_succ]))
                          | (refine planWp_skip rfl rfl ?_ ?_; (focus rfl); (try simp only [Act.put, List.setIfInBounds_toArray, List.set_cons_zero, List.set_cons_succ]))
                          | (refine planWp_leave rfl rfl ?_ hHeld ?_; (focus rfl); (try simp only [Act.put, List.setIfInBounds_toArray, List.set_cons_zero, List.set_cons_succ]))
                          | (refine planWp_do rfl rfl ?_ (fun K hK => ?_); (focus rfl); go_simp; (try go_wp2_with (first | (go_at_call 99; with_reducible refine (HA.out _).mono ?_; rintro e w5 ⟨rfl, hc5⟩; have HCX := Lib.hid hc5; clear hc5) | (go_at_call 99; with_reducible refine (HB.out _).mono ?_; rintro e w5 ⟨rfl, hc5⟩; have HCX := Lib.hid hc5; clear hc5) | (go_at_call 99; with_reducible refine (HB0.out _).mono ?_; rintro e w5 ⟨rfl, hc5⟩; have HCX := Lib.hid hc5; clear hc5))); refine hK.out _ _ ?_ (fun hHeld2 => ?_); (focus (obtain ⟨⟨z0, z1⟩, ⟨z2, z3⟩, z4⟩ := hHeld; exact ⟨⟨HCX.out.keep z0 (by simp), HCX.out.keep z1 (by simp)⟩, ⟨HCX.out.keep z2 (by simp), HCX.out.keep z3 (by simp)⟩, Lib.hid (z4.out.trans HCX.out)⟩)); clear hK K hHeld; have hHeld := hHeld2; clear hHeld2; (try simp only [Act.put, List.setIfInBounds_toArray, List.set_cons_zero, List.set_cons_succ])))
                        refine planWp_nil ?_
                        obtain ⟨-, -, hcz⟩ := hHeld
                        clear KEEP HBI
                        cases ra <;> cases rb
                        · go_wp2_with fail
                          go_roundw
                          case rel => exact ⟨m + 1, by have := HLM.out; omega, by go_num, Lib.hid (fun ho s hs => by
                              rw [HTS.out] at hs
                              rcases List.mem_append.1 hs with hs | hs
                              · exact HGI.out ho s hs
                              · simp at hs; subst hs; rw [HRA.out, HRB.out]), hcz⟩
                          case measure => have := HLM.out; simp [intOf]; omega
                        · go_wp2_with fail
                          go_ret2
                          exact ⟨.mk _ _ rfl (fun h => absurd h (by decide)), HCL.out.trans (HJI.out.trans hcz.out)⟩
                        · go_wp2_with fail
                          go_ret2
                          exact ⟨.mk _ _ rfl (fun h => absurd h (by decide)), HCL.out.trans (HJI.out.trans hcz.out)⟩
                        · go_wp2_with fail
                          go_roundw
                          case rel => exact ⟨m + 1, by have := HLM.out; omega, by go_num, Lib.hid (fun ho s hs => by
                              rw [HTS.out] at hs
                              rcases List.mem_append.1 hs with hs | hs
                              · exact HGI.out ho s hs
                              · simp at hs; subst hs; rw [HRA.out, HRB.out]), hcz⟩
                          case measure => have := HLM.out; simp [intOf]; omega
                      · obtain ⟨ra, hra⟩ : ∃ r, hasL (s1, s2) j = r := ⟨_, rfl⟩
                        obtain ⟨rb, hrb⟩ : ∃ r, hasL (s1, s2) nn = r := ⟨_, rfl⟩
                        have HA := Lib.hid (fun V => HN.out j V)
                        have HB0 := Lib.hid (fun V => HN.out nn V)
                        rw [hra] at HA
                        rw [hrb] at HB0
                        have HB := HB0
                        rw [← HKN.out] at HB
                        have HRA := Lib.hid hra
                        have HRB := Lib.hid hrb
                        clear hra hrb
                        go_wp2_with fail
                        have hHeld : (fun V : World => (V.cell? ⟨bi, 0, none⟩ = some (.int .i64 15) ∧ V.cell? ⟨bi, 4, none⟩ = some (.int .u32 nn)) ∧ (V.cell? ⟨wr.heap.size, 0, none⟩ = some (.int .i64 s1) ∧ V.cell? ⟨wr.heap.size, 1, none⟩ = some (.int .i64 s2)) ∧ Hid (Chg [] wI V)) (World.drew (wr.alloc (.cells #[.int .i64 s1, .int .i64 s2] 117))) := KEEP.out _ (Chg.refl _ _).drew
                        refine wp_region_plan (fun V : World => (V.cell? ⟨bi, 0, none⟩ = some (.int .i64 15) ∧ V.cell? ⟨bi, 4, none⟩ = some (.int .u32 nn)) ∧ (V.cell? ⟨wr.heap.size, 0, none⟩ = some (.int .i64 s1) ∧ V.cell? ⟨wr.heap.size, 1, none⟩ = some (.int .i64 s2)) ∧ Hid (Chg [] wI V)) [(0, true, some 117), (1, true, some 118), (2, true, some 119), (3, true, some 120), (4, true, some 121), (5, true, some 122), (6, true, some 123), (7, true, some 124), (8, true, some 125), (9, true, some 126), (10, true, some 127), (12, true, some 129), (13, true, some 130), (14, true, some 131), (15, true, some 132), (11, false, some 128), (16, false, some 133), (17, true, some 134), (18, true, some 135)] (by kernel_rfl) (by kernel_rfl) (by kernel_rfl) (by kernel_rfl) (fun d c a v w h => by cases d <;> exact h) hHeld ?_
                        repeat (first
                          | (refine planWp_read (v := ?_) rfl rfl ?_ ?_ ?_; rotate_left; (focus rfl); (focus (intro u hSw; (try dsimp only at hSw); obtain ⟨⟨z0, z1⟩, ⟨z2, z3⟩, -⟩ := hSw; go_simp; (try with_reducible rfl))); (try simp only [Act.put, List.setIfInBounds_toArray, List.set_cons_zero, List.set_cons_succ]))
                          | (refine planWp_skip rfl rfl ?_ ?_; (focus rfl); (try simp only [Act.put, List.setIfInBounds_toArray, List.set_cons_zero, List.set_cons_succ]))
                          | (refine planWp_leave rfl rfl ?_ hHeld ?_; (focus rfl); (try simp only [Act.put, List.setIfInBounds_toArray, List.set_cons_zero, List.set_cons_succ]))
                          | (refine planWp_do rfl rfl ?_ (fun K hK => ?_); (focus rfl); go_simp; (try go_wp2_with (first | (go_at_call 99; with_reducible refine (HA.out _).mono ?_; rintro e w5 ⟨rfl, hc5⟩; have HCX := Lib.hid hc5; clear hc5) | (go_at_call 99; with_reducible refine (HB.out _).mono ?_; rintro e w5 ⟨rfl, hc5⟩; have HCX := Lib.hid hc5; clear hc5) | (go_at_call 99; with_reducible refine (HB0.out _).mono ?_; rintro e w5 ⟨rfl, hc5⟩; have HCX := Lib.hid hc5; clear hc5))); refine hK.out _ _ ?_ (fun hHeld2 => ?_); (focus (obtain ⟨⟨z0, z1⟩, ⟨z2, z3⟩, z4⟩ := hHeld; exact ⟨⟨HCX.out.keep z0 (by simp), HCX.out.keep z1 (by simp)⟩, ⟨HCX.out.keep z2 (by simp), HCX.out.keep z3 (by simp)⟩, Lib.hid (z4.out.trans HCX.out)⟩)); clear hK K hHeld; have hHeld := hHeld2; clear hHeld2; (try simp only [Act.put, List.setIfInBounds_toArray, List.set_cons_zero, List.set_cons_succ])))
                        refine planWp_nil ?_
                        obtain ⟨-, -, hcz⟩ := hHeld
                        clear KEEP HBI
                        cases ra <;> cases rb
                        · go_wp2_with fail
                          go_roundw
                          case rel => exact ⟨m + 1, by have := HLM.out; omega, by go_num, Lib.hid (fun ho s hs => by
                              rw [HTS.out] at hs
                              rcases List.mem_append.1 hs with hs | hs
                              · exact HGI.out ho s hs
                              · simp at hs; subst hs; rw [HRA.out, HRB.out]), hcz⟩
                          case measure => have := HLM.out; simp [intOf]; omega
                        · go_wp2_with fail
                          go_ret2
                          exact ⟨.mk _ _ rfl (fun h => absurd h (by decide)), HCL.out.trans (HJI.out.trans hcz.out)⟩
                        · go_wp2_with fail
                          go_ret2
                          exact ⟨.mk _ _ rfl (fun h => absurd h (by decide)), HCL.out.trans (HJI.out.trans hcz.out)⟩
                        · go_wp2_with fail
                          go_roundw
                          case rel => exact ⟨m + 1, by have := HLM.out; omega, by go_num, Lib.hid (fun ho s hs => by
                              rw [HTS.out] at hs
                              rcases List.mem_append.1 hs with hs | hs
                              · exact HGI.out ho s hs
                              · simp at hs; subst hs; rw [HRA.out, HRB.out]), hcz⟩
                          case measure => have := HLM.out; simp [intOf]; omega
                      · have d2 : (op == 14) = false := by simpa using n2
                        have d3 : (op == 15) = false := by simpa using n3
                        have HNO : Hid (¬ (op = 14 ∨ op = 15)) := Lib.hid (by omega)
                        clear n2 n3
                        go_wp2_with fail
                        have hHeld : (fun V : World => (V.cell? ⟨bi, 0, none⟩ = some (.int .i64 op) ∧ V.cell? ⟨bi, 4, none⟩ = some (.int .u32 nn)) ∧ (V.cell? ⟨wr.heap.size, 0, none⟩ = some (.int .i64 s1) ∧ V.cell? ⟨wr.heap.size, 1, none⟩ = some (.int .i64 s2)) ∧ Hid (Chg [] wI V)) (World.drew (wr.alloc (.cells #[.int .i64 s1, .int .i64 s2] 117))) := KEEP.out _ (Chg.refl _ _).drew
                        refine wp_region_plan (fun V : World => (V.cell? ⟨bi, 0, none⟩ = some (.int .i64 op) ∧ V.cell? ⟨bi, 4, none⟩ = some (.int .u32 nn)) ∧ (V.cell? ⟨wr.heap.size, 0, none⟩ = some (.int .i64 s1) ∧ V.cell? ⟨wr.heap.size, 1, none⟩ = some (.int .i64 s2)) ∧ Hid (Chg [] wI V)) [(0, true, some 117), (1, true, some 118), (2, true, some 119), (3, true, some 120), (4, true, some 121), (5, true, some 122), (6, true, some 123), (7, true, some 124), (8, true, some 125), (9, true, some 126), (10, true, some 127), (12, true, some 129), (13, true, some 130), (14, true, some 131), (15, true, some 132), (11, false, some 128), (16, false, some 133), (17, true, some 134), (18, true, some 135)] (by kernel_rfl) (by kernel_rfl) (by kernel_rfl) (by kernel_rfl) (fun d c a v w h => by cases d <;> exact h) hHeld ?_
                        repeat (first
                          | (refine planWp_read (v := ?_) rfl rfl ?_ ?_ ?_; rotate_left; (focus rfl); (focus (intro u hSw; (try dsimp only at hSw); obtain ⟨⟨z0, z1⟩, ⟨z2, z3⟩, -⟩ := hSw; go_simp; (try with_reducible rfl))); (try simp only [Act.put, List.setIfInBounds_toArray, List.set_cons_zero, List.set_cons_succ]))
                          | (refine planWp_skip rfl rfl ?_ ?_; (focus rfl); (try simp only [Act.put, List.setIfInBounds_toArray, List.set_cons_zero, List.set_cons_succ]))
                          | (refine planWp_leave rfl rfl ?_ hHeld ?_; (focus rfl); (try simp only [Act.put, List.setIfInBounds_toArray, List.set_cons_zero, List.set_cons_succ]))
                          | (refine planWp_do rfl rfl ?_ (fun K hK => ?_); (focus rfl); go_simp; (try go_wp2_with fail); refine hK.out _ _ ?_ (fun hHeld2 => ?_); (focus (obtain ⟨⟨z0, z1⟩, ⟨z2, z3⟩, z4⟩ := hHeld; exact ⟨⟨HCX.out.keep z0 (by simp), HCX.out.keep z1 (by simp)⟩, ⟨HCX.out.keep z2 (by simp), HCX.out.keep z3 (by simp)⟩, Lib.hid (z4.out.trans HCX.out)⟩)); clear hK K hHeld; have hHeld := hHeld2; clear hHeld2; (try simp only [Act.put, List.setIfInBounds_toArray, List.set_cons_zero, List.set_cons_succ])))
                        refine planWp_nil ?_
                        obtain ⟨-, -, hcz⟩ := hHeld
                        clear KEEP HBI
                        go_wp2_with fail
                        go_roundw
                        case rel => exact ⟨m + 1, by have := HLM.out; omega, by go_num, Lib.hid (fun ho => absurd ho HNO.out), hcz⟩
                        case measure => have := HLM.out; simp [intOf]; omega
                    · obtain rfl : LL.length = m := by omega
                      clear hlm hm
                      rw [List.take_length] at HGI
                      go_wp2_with fail
                      have hltj := HLT.out
                      go_roundw
                      case rel => exact ⟨j + 1, by omega, by go_num, Lib.hid (HG.out.succ HK.out (fun ho s hs => HGI.out ho s hs)), Lib.hid (HJI.out.trans HJX.out)⟩
                      case measure => simp [intOf]; omega
                · obtain rfl : p.length = j := by omega
                  clear hlt hj
                  obtain ⟨l1, hl1⟩ : ∃ x, p.length - 1 = x := ⟨_, rfl⟩
                  have hll : l1 < p.length := by have := HLEN.out; omega
                  have g1 := HX1.out l1 hll
                  obtain ⟨⟨op, ia, ib, ic, nn⟩, htk⟩ : ∃ t, p[l1]? = some t := ⟨_, List.getElem?_eq_getElem hll⟩
                  obtain ⟨q0, -⟩ := HC1.out wr (HCL.out.trans HJ.out) l1 _ htk
                  simp only at q0
                  have kl : IntKind.i64.wrap ((p.length : Int) - 1) = (l1 : Int) := by rw [IntKind.wrap_i64]; have := HLEN.out; omega
                  have HK := Lib.hid htk
                  have HL1 := Lib.hid hl1
                  clear htk hl1 hll
                  by_cases c1 : op = 21
                  · subst c1
                    go_wp2_with fail
                    go_ret2
                    refine ⟨.mk _ _ rfl (fun _ => ?_), HCL.out.trans HJ.out⟩
                    have hL := HLL.out
                    have hK := HK.out
                    rw [← HL1.out] at hK
                    exact fine_of HW.out HLEN.out HG1.out HG2.out (by rw [hL]; exact HG3.out) (by rw [hL]; exact HG.out) hK rfl
                  · have d1 : (op == 21) = false := by simpa using c1
                    clear c1
                    go_wp2_with fail
                    go_ret2
                    exact ⟨.mk _ _ rfl (fun h => absurd h (by decide)), HCL.out.trans HJ.out⟩
end Go.Proofs.YtkedegbpkkgeaaaGreat.tf
/- A region that draws, walked by a plan, whose last operations stand in one chain: they are walked in their order (no project text). -/
namespace Go.Proofs.YtkedegbpkkgeaaaGreat.kit
open Go Go.RowKit
set_option linter.unusedVariables false
set_option linter.unusedSimpArgs false

section
variable {P : Program} {ops : Array Oper} {Q : Exit → Act → World → Prop} {md : Region.Mode} {S : World → Prop} {L : Nat}

/-- Whatever order is picked from here on; S holds behind every operation ahead of number L. -/
def wpAnyV (P : Program) (md : Region.Mode) (ops : Array Oper) (Q : Exit → Act → World → Prop) (S : World → Prop) (L : Nat) : Nat → Array Bool → Act → World → Prop
  | 0, listed, a, w => Region.ready md ops listed = [] ∧ Q .normal a w
  | fuel + 1, listed, a, w =>
    (Region.ready md ops listed = [] → Q .normal a w) ∧
    ∀ i ∈ Region.ready md ops listed, wpOp P ops Q i (fun a' w' => (i < L → S w') ∧ wpAnyV P md ops Q S L fuel (listed.setIfInBounds i true) a' w') a w
theorem wpAny_of_V : ∀ (fuel : Nat) (listed : Array Bool) (a : Act) (w : World), wpAnyV P md ops Q S L fuel listed a w → wpAny P md ops Q fuel listed a w
  | 0, _, _, _, h => h
  | fuel + 1, _, _, _, h => ⟨h.1, fun i hi => wpOp_mono (fun a' w' h' => wpAny_of_V fuel _ a' w' h'.2) (h.2 i hi)⟩
theorem wpAnyV_first {i : Nat} {oi : Oper} {v : Value} (hL : lastB md ops L = true) (hiL : i < L) (hi : ops[i]? = some oi) (hsel : ∀ (j : Nat) (o : Oper) cs b, ops[j]? = some o → o.op ≠ .select cs b)
    (hQ : ∀ c a w, Q (.panic c) (a.put oi.dst v) w → Q (.panic c) a w) :
    ∀ (fuel : Nat) (listed : Array Bool) (a : Act) (w : World), HeadInv md ops L listed →
      (∀ j oj, ops[j]? = some oj → j ≠ i → listed.getD j true = false → (∀ e ∈ oj.after, Region.binds md e = true → e.on ≠ i) → oi.apart ops oj = true) →
      i ∈ Region.ready md ops listed → YieldsIf P ops S oi v a → S w →
      wpAnyV P md ops Q S L fuel (listed.setIfInBounds i true) (a.put oi.dst v) w → wpAnyV P md ops Q S L (fuel + 1) listed a w := by
  intro fuel
  induction fuel with
  | zero =>
    intro listed a w inv _ hr hy hS H
    refine ⟨fun h => (by rw [h] at hr; cases hr), fun j hj => ?_⟩
    by_cases hji : j = i
    · subst hji; exact hy.wpOp hi hS ⟨fun _ => hS, H⟩
    · have := ready_mono hj hji
      rw [H.1] at this
      cases this
  | succ fuel ih =>
    intro listed a w inv hfree hr hy hS H
    refine ⟨fun h => (by rw [h] at hr; cases hr), fun j hj => ?_⟩
    by_cases hji : j = i
    · subst hji; exact hy.wpOp hi hS ⟨fun _ => hS, H⟩
    · have hjl := last_waits hL inv hr hiL hj
      have h1 := H.2 j (ready_mono hj hji)
      obtain ⟨hjun, oj, hoj, hall⟩ := mem_ready.1 hj
      have hnot : ∀ e ∈ oj.after, Region.binds md e = true → e.on ≠ i := fun e he hb heq => by
        have h1 := hall e he hb
        rw [heq, getD_both (mem_ready.1 hr).1] at h1
        cases h1
      have h2 := wpOp_putIf hoj (hfree j oj hoj hji hjun hnot) (fun cs b => hsel i oi cs b hi) (fun cs b => hsel j oj cs b hoj) hQ hy h1
      have hfree' : ∀ k ok, ops[k]? = some ok → k ≠ i → (listed.setIfInBounds j true).getD k true = false →
          (∀ e ∈ ok.after, Region.binds md e = true → e.on ≠ i) → oi.apart ops ok = true := fun k ok hk hki hun hno => by
        refine hfree k ok hk hki ?_ hno
        by_cases hjk : j = k
        · subst hjk; exact hjun
        · rw [getD_set_ne true hjk] at hun; exact hun
      refine wpOp_mono (fun a' w' h3 => ⟨fun _ => h3.2.1 hjl, ih (listed.setIfInBounds j true) a' w' (inv.set hj hjl) hfree' (ready_mono hr (Ne.symm hji)) h3.1 (h3.2.1 hjl) ?_⟩) h2
      rw [Array.setIfInBounds_comm _ _ hji]
      exact h3.2.2
theorem wpAnyV_of_seq : ∀ (l : List Oper) (k : Nat) (listed : Array Bool) (a : Act) (w : World), L ≤ k → (∀ j, l[j]? = ops[k + j]?) →
    Region.seqB md ops l.length k listed = true → wpList P ops Q l a w → wpAnyV P md ops Q S L l.length listed a w
  | [], _, _, _, _, _, _, hB, h => ⟨by simpa [Region.seqB] using hB, h⟩
  | o :: l, k, listed, a, w, hk, hl, hB, h => by
    have h0 : ops[k]? = some o := by simpa using (hl 0).symm
    simp only [List.length_cons, Region.seqB, Bool.and_eq_true, decide_eq_true_eq] at hB
    refine ⟨fun h1 => (by rw [hB.1] at h1; cases h1), fun i hi => ?_⟩
    rw [hB.1] at hi
    have hik : i = k := by simpa using hi
    subst hik
    have hw : wpOp P ops Q i (wpList P ops Q l) a w := by unfold wpOp; simp only [h0]; exact h
    exact wpOp_mono (fun a' w' h' => ⟨fun hlt => absurd hlt (by omega), wpAnyV_of_seq l (i + 1) _ a' w' (by omega) (fun j => by have := hl (j + 1); simpa [Nat.add_assoc, Nat.add_comm 1 j] using this) hB.2 h'⟩) hw
/-- The plan's obligations, the chain ahead of what follows. -/
def planWpV (P : Program) (ops : Array Oper) (Q : Exit → Act → World → Prop) (S : World → Prop) (L : Nat) : List (Nat × Bool × Option Nat) → Act → World → Prop
  | [], a, w => wpList P ops Q (ops.toList.drop L) a w
  | (i, true, d) :: r, a, w => ∃ o v, ops[i]? = some o ∧ o.dst = d ∧ YieldsIf P ops S o v a ∧ planWpV P ops Q S L r (a.put d v) w
  | (i, false, d) :: r, a, w => ∃ o, ops[i]? = some o ∧ o.dst = d ∧ ∀ K : Act → World → Prop, Shut (∀ a w, S w → (S w → planWpV P ops Q S L r a w) → K a w) →
      if Region.wanted o (yielded ops a.tmps) = true then Oper.wp P o a w K Q else K (a.put d undef) w
def planBV (md : Region.Mode) (ops : Array Oper) (L : Nat) : List (Nat × Bool × Option Nat) → Array Bool → Bool
  | [], listed => Region.seqB md ops (ops.toList.drop L).length L listed
  | (i, true, _) :: r, listed => decide (i < L) && Region.free md ops listed i && (Region.ready md ops listed).contains i && planBV md ops L r (listed.setIfInBounds i true)
  | (i, false, _) :: r, listed => decide (i < L) && decide (Region.ready md ops listed = [i]) && planBV md ops L r (listed.setIfInBounds i true)
theorem wpAnyV_of_plan (hL : lastB md ops L = true) (hs : Region.noSelect ops = true) (hQ : ∀ d c a v w, Q (.panic c) (Act.put a d v) w → Q (.panic c) a w) :
    ∀ (pl : List (Nat × Bool × Option Nat)) (listed : Array Bool) (a : Act) (w : World), HeadInv md ops L listed → planBV md ops L pl listed = true → S w → planWpV P ops Q S L pl a w → wpAnyV P md ops Q S L (pl.length + (ops.toList.drop L).length) listed a w
  | [], listed, a, w, inv, hB, hS, h => by
    rw [List.length_nil, Nat.zero_add]
    exact wpAnyV_of_seq (ops.toList.drop L) L listed a w (Nat.le_refl _) (fun j => by rw [List.getElem?_drop, Array.getElem?_toList]) hB h
  | (i, true, d) :: r, listed, a, w, inv, hB, hS, h => by
    simp only [planBV, Bool.and_eq_true, decide_eq_true_eq] at hB
    obtain ⟨o, v, hi, rfl, hy, h⟩ := h
    rw [List.length_cons, Nat.add_right_comm]
    exact wpAnyV_first hL hB.1.1.1 hi (Region.noSelect_spec hs) (fun c a w => hQ _ c a v w) _ listed a w inv (Region.free_spec hi hB.1.1.2) (by simpa using hB.1.2) hy hS (wpAnyV_of_plan hL hs hQ r _ _ w (inv.set (by simpa using hB.1.2) hB.1.1.1) hB.2 hS h)
  | (i, false, d) :: r, listed, a, w, inv, hB, hS, h => by
    simp only [planBV, Bool.and_eq_true, decide_eq_true_eq] at hB
    obtain ⟨o, hi, rfl, h⟩ := h
    rw [List.length_cons, Nat.add_right_comm]
    refine ⟨fun h0 => (by rw [hB.1.2] at h0; cases h0), fun j hj => ?_⟩
    rw [hB.1.2] at hj
    obtain rfl : j = i := by simpa using hj
    exact wpOp_step hi fun K hK => h K fun a' w' hS' hp => hK a' w' ⟨fun _ => hS', wpAnyV_of_plan hL hs hQ r _ a' w' (inv.set (by rw [hB.1.2]; simp) hB.1.1) hB.2 hS' (hp hS')⟩
theorem wp_region_planV {id : Nat} {a : Act} {w : World} (S : World → Prop) (L : Nat) (pl : List (Nat × Bool × Option Nat)) (hm : P.follows .mixedOrders = true) (hs : Region.noSelect ops = true) (hl : pl.length + (ops.toList.drop L).length = ops.size) (hL : lastB .any ops L = true)
    (hB : planBV .any ops L pl (Array.replicate ops.size false) = true) (hQ : ∀ d c a v w, Q (.panic c) (Act.put a d v) w → Q (.panic c) a w) (hS : S w.drew) (h : planWpV P ops Q S L pl a w.drew) : (Code.region id ops true).wp P Q a w := by
  refine wp_region_any hm (wpAny_of_V (S := S) (L := L) _ _ _ _ ?_)
  have inv0 : HeadInv .any ops L (Array.replicate ops.size false) := ⟨by simp, fun j oj _ hl => (by rw [getD_replicate_false] at hl; cases hl), fun t _ ht => getD_in (by simpa using ht) (getD_replicate_false _ _)⟩
  have := wpAnyV_of_plan (md := .any) hL hs hQ pl _ a w.drew inv0 hB hS h
  rw [hl] at this
  exact this
theorem planV_read {i : Nat} {d : Option Nat} {r : List (Nat × Bool × Option Nat)} {a : Act} {w : World} {o : Oper} {v : Value} (hi : ops[i]? = some o) (hd : o.dst = d) (hw : Region.wanted o (yielded ops a.tmps) = true) (hy : ∀ w, S w → (execOp a.eval o).run P w = .ok (.value v) w)
    (h : planWpV P ops Q S L r (a.put d v) w) : planWpV P ops Q S L ((i, true, d) :: r) a w := ⟨o, v, hi, hd, .inl ⟨hw, hy⟩, h⟩
theorem planV_do {i : Nat} {d : Option Nat} {r : List (Nat × Bool × Option Nat)} {a : Act} {w : World} {o : Oper} (hi : ops[i]? = some o) (hd : o.dst = d) (hw : Region.wanted o (yielded ops a.tmps) = true)
    (h : ∀ K : Act → World → Prop, Shut (∀ a w, S w → (S w → planWpV P ops Q S L r a w) → K a w) → Oper.wp P o a w K Q) : planWpV P ops Q S L ((i, false, d) :: r) a w := ⟨o, hi, hd, fun K hK => by rw [if_pos hw]; exact h K hK⟩
theorem planV_tail {a : Act} {w : World} (h : wpList P ops Q (ops.toList.drop L) a w) : planWpV P ops Q S L [] a w := h
end
end Go.Proofs.YtkedegbpkkgeaaaGreat.kit
