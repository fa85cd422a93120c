/- Systems in memory, with all that they hold: tasks' code, objects' first words and readers. -/
import Derived.Test.YtjplamoofkcojaaSys
import Derived.Test.YtjplamoofkcojaaImgP
namespace Go.Proofs.Ytjplamoofkcojaa.img
open Go Go.RowKit Go.Proofs.Ytjplamoofkcojaa.kit Go.Proofs.Ytjplamoofkcojaa.obj Go.Proofs.Ytjplamoofkcojaa.mem Go.Proofs.Ytjplamoofkcojaa.lay
set_option linter.unusedVariables false
set_option linter.unusedSimpArgs false
set_option maxRecDepth 20000

theorem szIns : (Try.prog.info? 128).map (·.size) = some 5 := by kernel_rfl
theorem szI : (Try.prog.info? 3).map (·.size) = some 1 := by kernel_rfl
theorem cellsUint : Try.prog.cellsOf 22 = 1 := by kernel_rfl
def Ins.cells (i : Ins) : List Value := [.int .i64 i.op, .int .i64 i.a, .int .i64 i.b, .int .i64 i.c, .int .u32 i.n]
def ReadsC (w : World) (v : Value) (l : List Ins) : Prop := Reads w 5 v l.length (l.flatMap Ins.cells) ∧ ∀ i ∈ l, fit4 i.n
def ReadsN (w : World) (v : Value) (l : List Int) : Prop := Reads w 1 v l.length (l.map (Value.int .i64))
theorem ReadsC.chg {w w' : World} {v : Value} {l : List Ins} (h : ReadsC w v l) (k : Chg [] w w') : ReadsC w' v l := ⟨h.1.fresh k, h.2⟩
theorem ReadsN.chg {w w' : World} {v : Value} {l : List Int} (h : ReadsN w v l) (k : Chg [] w w') : ReadsN w' v l := Reads.fresh h k
/-- a task as it lies, and its code -/
structure DT where
  t : Tk
  code : List Ins
structure DO where
  o : Ob
  ini : List Int
  rds : List Int
def DT.p (d : DT) : PTk := ⟨d.t.kind, d.t.prio, d.t.period, d.t.offset, d.t.deadline, d.t.own, d.code⟩
def DO.p (d : DO) : POb := ⟨d.o.k, d.o.w, d.o.s, d.o.c, d.o.st, d.o.wr, d.ini, d.rds⟩
def DT.R (w : World) (d : DT) : Prop := ReadsC w (.slice d.t.ca d.t.cl d.t.cc) d.code
def DO.R (w : World) (d : DO) : Prop := (fit4 d.o.st ∧ ReadsW w (.slice d.o.ia d.o.il d.o.ic) d.ini) ∧ ReadsN w (.slice d.o.ra d.o.rl d.o.rc) d.rds
theorem DT.R.chg {w w' : World} {d : DT} (h : d.R w) (k : Chg [] w w') : d.R w' := ReadsC.chg h k
theorem DO.R.chg {w w' : World} {d : DO} (h : d.R w) (k : Chg [] w w') : d.R w' := ⟨⟨h.1.1, h.1.2.chg k⟩, h.2.chg k⟩
theorem DT.R.len {w : World} {d : DT} (h : d.R w) : d.t.cl = d.code.length := by
  obtain ⟨_, _, he, _⟩ := reads_slice h.1; simp at he; exact he.2.1
theorem DO.R.leni {w : World} {d : DO} (h : d.R w) : d.o.il = d.ini.length := by
  obtain ⟨_, _, he, _⟩ := reads_slice h.1.2.1; simp at he; exact he.2.1
theorem DO.R.lenr {w : World} {d : DO} (h : d.R w) : d.o.rl = d.rds.length := by
  obtain ⟨_, _, he, _⟩ := reads_slice h.2; simp at he; exact he.2.1
def ReadsDT (w : World) (v : Value) (ds : List DT) : Prop := ReadsT w v (ds.map DT.t) ∧ ∀ d ∈ ds, d.R w
def ReadsDO (w : World) (v : Value) (ds : List DO) : Prop := ReadsO w v (ds.map DO.o) ∧ ∀ d ∈ ds, d.R w
theorem ReadsDT.chg {w w' : World} {v : Value} {l : List DT} (h : ReadsDT w v l) (k : Chg [] w w') : ReadsDT w' v l := ⟨h.1.chg k, fun d hd => (h.2 d hd).chg k⟩
theorem ReadsDO.chg {w w' : World} {v : Value} {l : List DO} (h : ReadsDO w v l) (k : Chg [] w w') : ReadsDO w' v l := ⟨h.1.chg k, fun d hd => (h.2 d hd).chg k⟩
theorem code_open {w : World} {n : Nat} {cs : List Value} (h : kit.Opens Try.prog w (n + 3) 79 cs) : ∃ a l c is, cs = [.slice a l c] ∧ ReadsC w (.slice a l c) is := by
  obtain ⟨a, l, c, rfl⟩ := h.isSlice Try.underlying79 (by rw [cellsInstr]; decide)
  obtain ⟨xs, hx, hxs⟩ := Opens.slice h Try.underlying79 cellsInstr (by decide)
  obtain ⟨is, hl, hx2, hw⟩ := rows_of Ins.cells (fun i => fit4 i.n) 5 (fun _ => rfl) l xs hx.1 fun i hi => by
    have hp := hxs i hi
    have hl3 := (hp.struct Try.underlying128).1
    obtain ⟨t0, g0, v0⟩ := (hp.field Try.underlying128 0 _ rfl 0 1 rfl cellsInt).int Try.underlying3
    obtain ⟨t1, g1, v1⟩ := (hp.field Try.underlying128 1 _ rfl 1 1 rfl cellsInt).int Try.underlying3
    obtain ⟨t2, g2, v2⟩ := (hp.field Try.underlying128 2 _ rfl 2 1 rfl cellsInt).int Try.underlying3
    obtain ⟨t3, g3, v3⟩ := (hp.field Try.underlying128 3 _ rfl 3 1 rfl cellsInt).int Try.underlying3
    obtain ⟨t4, g4, v4⟩ := (hp.field Try.underlying128 4 _ rfl 4 1 rfl cellsUint).int Try.underlying22
    rw [cellsInstr] at hl3
    refine ⟨⟨t0, t1, t2, t3, t4⟩, ?_, wf_u32 v4⟩
    generalize (xs.drop (i * 5)).take 5 = ys at *
    match ys, hl3 with
    | [y0, y1, y2, y3, y4], _ => simp at g0 g1 g2 g3 g4; rw [g0, g1, g2, g3, g4]; rfl
  refine ⟨a, l, c, is, rfl, ?_, hw⟩
  rw [hl, ← hx2]
  exact hx
theorem ints_open {w : World} {n : Nat} {cs : List Value} (h : kit.Opens Try.prog w (n + 2) 24 cs) : ∃ a l c zs, cs = [.slice a l c] ∧ ReadsN w (.slice a l c) zs := by
  obtain ⟨a, l, c, rfl⟩ := h.isSlice Try.underlying24 (by rw [cellsInt]; decide)
  obtain ⟨zs, hl, hr, hw⟩ := h.ints Try.underlying24 Try.underlying3 cellsInt
  exact ⟨a, l, c, zs, rfl, hr⟩
theorem rowsT_map (ds : List DT) : (ds.map DT.t).flatMap Tk.cells = ds.flatMap (fun d => d.t.cells) := by rw [List.flatMap_map]
theorem rowsO_map (ds : List DO) : (ds.map DO.o).flatMap Ob.cells = ds.flatMap (fun d => d.o.cells) := by rw [List.flatMap_map]
theorem tasks_deep {w : World} {n : Nat} {cs : List Value} (h : kit.Opens Try.prog w (n + 6) 46 cs) : ∃ a c ds, cs = [.slice a ds.length c] ∧ ReadsDT w (.slice a ds.length c) ds := by
  obtain ⟨a, l, c, rfl⟩ := h.isSlice Try.underlying46 (by rw [cellsTask]; decide)
  obtain ⟨xs, hx, hxs⟩ := Opens.slice h Try.underlying46 cellsTask (by decide)
  obtain ⟨ds, hl, hx2, hw⟩ := rows_of (fun d : DT => d.t.cells) (fun d => i64B d.t.own ∧ d.R w) 7 (fun _ => rfl) l xs hx.1 fun i hi => by
    have hp := hxs i hi
    have hl3 := (hp.struct Try.underlying81).1
    obtain ⟨t0, g0, v0⟩ := (hp.field Try.underlying81 0 _ rfl 0 1 rfl cellsInt).int Try.underlying3
    obtain ⟨t1, g1, v1⟩ := (hp.field Try.underlying81 1 _ rfl 1 1 rfl cellsInt).int Try.underlying3
    obtain ⟨t2, g2, v2⟩ := (hp.field Try.underlying81 2 _ rfl 2 1 rfl cellsInt).int Try.underlying3
    obtain ⟨t3, g3, v3⟩ := (hp.field Try.underlying81 3 _ rfl 3 1 rfl cellsInt).int Try.underlying3
    obtain ⟨t4, g4, v4⟩ := (hp.field Try.underlying81 4 _ rfl 4 1 rfl cellsInt).int Try.underlying3
    obtain ⟨t5, g5, v5⟩ := (hp.field Try.underlying81 5 _ rfl 5 1 rfl cellsInt).int Try.underlying3
    obtain ⟨a6, l6, c6, is, g6, r6⟩ := code_open (n := n + 1) (hp.field Try.underlying81 6 _ rfl 6 1 rfl cellsInstrs)
    rw [cellsTask] at hl3
    refine ⟨⟨⟨t0, t1, t2, t3, t4, t5, a6, l6, c6⟩, is⟩, ?_, wf_i64 v5, r6⟩
    generalize (xs.drop (i * 7)).take 7 = ys at *
    match ys, hl3 with
    | [y0, y1, y2, y3, y4, y5, y6], _ => simp at g0 g1 g2 g3 g4 g5 g6; rw [g0, g1, g2, g3, g4, g5, g6]; rfl
  subst hl
  refine ⟨a, c, ds, rfl, ⟨?_, fun t ht => ?_⟩, fun d hd => (hw d hd).2⟩
  · rw [rowsT_map, List.length_map, ← hx2]
    exact hx
  · obtain ⟨d, hd, rfl⟩ := List.mem_map.1 ht
    exact (hw d hd).1
theorem objs_deep {w : World} {n : Nat} {cs : List Value} (h : kit.Opens Try.prog w (n + 5) 47 cs) : ∃ a c ds, cs = [.slice a ds.length c] ∧ ReadsDO w (.slice a ds.length c) ds ∧ ∀ d ∈ ds, d.o.small = true → d.o.W := by
  obtain ⟨a, l, c, rfl⟩ := h.isSlice Try.underlying47 (by rw [cellsO]; decide)
  obtain ⟨xs, hx, hxs⟩ := Opens.slice h Try.underlying47 cellsO (by decide)
  obtain ⟨ds, hl, hx2, hw⟩ := rows_of (fun d : DO => d.o.cells) (fun d => d.R w ∧ (d.o.small = true → d.o.W)) 8 (fun _ => rfl) l xs hx.1 fun i hi => by
    have hp := hxs i hi
    have hl3 := (hp.struct Try.underlying26).1
    obtain ⟨t0, g0, v0⟩ := (hp.field Try.underlying26 0 _ rfl 0 1 rfl cellsInt).int Try.underlying3
    obtain ⟨t1, g1, v1⟩ := (hp.field Try.underlying26 1 _ rfl 1 1 rfl cellsInt).int Try.underlying3
    obtain ⟨t2, g2, v2⟩ := (hp.field Try.underlying26 2 _ rfl 2 1 rfl cellsInt).int Try.underlying3
    obtain ⟨t3, g3, v3⟩ := (hp.field Try.underlying26 3 _ rfl 3 1 rfl cellsInt).int Try.underlying3
    obtain ⟨t4, g4, v4⟩ := (hp.field Try.underlying26 4 _ rfl 4 1 rfl cellsUint).int Try.underlying22
    have f5 := hp.field Try.underlying26 5 _ rfl 5 1 rfl cellsWs
    obtain ⟨a5, l5, c5, g5⟩ := f5.isSlice Try.underlying23 (by rw [cellsUint]; decide)
    rw [g5] at f5
    obtain ⟨ini, hil, r5, w5⟩ := Opens.ints (n := n + 2) f5 Try.underlying23 Try.underlying22 cellsUint
    obtain ⟨t6, g6, v6⟩ := (hp.field Try.underlying26 6 _ rfl 6 1 rfl cellsInt).int Try.underlying3
    obtain ⟨a7, l7, c7, rds, g7, r7⟩ := ints_open (n := n + 2) (hp.field Try.underlying26 7 _ rfl 7 1 rfl cellsIs)
    rw [cellsO] at hl3
    have b0 := wf_i64 v0
    have b1 := wf_i64 v1
    have b2 := wf_i64 v2
    have b3 := wf_i64 v3
    have b4 := wf_u32 v4
    refine ⟨⟨⟨t0, t1, t2, t3, t4, a5, l5, c5, t6, a7, l7, c7⟩, ini, rds⟩, ?_, ⟨⟨wf_u32 v4, r5, w5⟩, r7⟩, fun hs => ?_⟩
    · generalize (xs.drop (i * 8)).take 8 = ys at *
      match ys, hl3 with
      | [y0, y1, y2, y3, y4, y5, y6, y7], _ => simp at g0 g1 g2 g3 g4 g5 g6 g7; rw [g0, g1, g2, g3, g4, g5, g6, g7]; rfl
    · simp only [Ob.small, decide_eq_true_eq] at hs
      exact ⟨b0, b1, b2, b3, b4, hs.1, hs.2⟩
  subst hl
  refine ⟨a, c, ds, rfl, ⟨?_, fun d hd => (hw d hd).1⟩, fun d hd => (hw d hd).2⟩
  unfold ReadsO
  rw [rowsO_map, List.length_map, ← hx2]
  exact hx
theorem system_deep {w : World} {n : Nat} {cs : List Value} (h : kit.Opens Try.prog w (n + 8) 49 cs) :
    ∃ a c ts a2 c2 os, cs = [.slice a ts.length c, .slice a2 os.length c2] ∧ ReadsDT w (.slice a ts.length c) ts ∧ ReadsDO w (.slice a2 os.length c2) os ∧ ∀ d ∈ os, d.o.small = true → d.o.W := by
  have hl := (h.struct Try.underlying49).1
  obtain ⟨a, c, ts, h0, r0⟩ := tasks_deep (n := n + 1) (h.field Try.underlying49 0 _ rfl 0 1 rfl cellsTasks)
  obtain ⟨a2, c2, os, h1, r1, r2⟩ := objs_deep (n := n + 2) (h.field Try.underlying49 1 _ rfl 1 1 rfl cellsObjs)
  rw [cellsSystem] at hl
  refine ⟨a, c, ts, a2, c2, os, ?_, r0, r1, r2⟩
  match cs, hl with
  | [y0, y1], _ => simp at h0 h1; rw [h0, h1]
end Go.Proofs.Ytjplamoofkcojaa.img
