/- Systems: tasks and objects in memory. -/
import Derived.Test.YtjplamoofkcojaaLay1
import Derived.Deep.CutBlock
namespace Go.Proofs.Ytjplamoofkcojaa.lay
open Go Go.RowKit Go.Proofs.Ytjplamoofkcojaa.kit Go.Proofs.Ytjplamoofkcojaa.obj Go.Proofs.Ytjplamoofkcojaa.mem
set_option linter.unusedVariables false
set_option linter.unusedSimpArgs false
set_option maxRecDepth 20000

theorem cellsTask : Try.prog.cellsOf 81 = 7 := by kernel_rfl
theorem cellsTasks : Try.prog.cellsOf 46 = 1 := by kernel_rfl
theorem cellsObjs : Try.prog.cellsOf 47 = 1 := by kernel_rfl
theorem cellsInstrs : Try.prog.cellsOf 79 = 1 := by kernel_rfl
theorem cellsInstr : Try.prog.cellsOf 128 = 5 := by kernel_rfl
theorem cellsSystem : Try.prog.cellsOf 49 = 2 := by kernel_rfl
theorem szTask : (Try.prog.info? 81).map (·.size) = some 7 := by kernel_rfl
theorem szObj : (Try.prog.info? 26).map (·.size) = some 8 := by kernel_rfl
theorem infoInt : (Try.prog.info? 3).map (fun i => (i.zero, i.size, i.bytes)) = some (some (.int .i64 0), 1, 8) := by kernel_rfl
theorem szInt : (Try.prog.info? 3).map (·.size) = some 1 := by kernel_rfl
structure Tk where
  kind : Int
  prio : Int
  period : Int
  offset : Int
  deadline : Int
  own : Int
  ca : Option Addr
  cl : Nat
  cc : Nat
def Tk.cells (t : Tk) : List Value := [.int .i64 t.kind, .int .i64 t.prio, .int .i64 t.period, .int .i64 t.offset, .int .i64 t.deadline, .int .i64 t.own, .slice t.ca t.cl t.cc]
structure Ob where
  k : Int
  w : Int
  s : Int
  c : Int
  st : Int
  ia : Option Addr
  il : Nat
  ic : Nat
  wr : Int
  ra : Option Addr
  rl : Nat
  rc : Nat
def Ob.cells (o : Ob) : List Value := [.int .i64 o.k, .int .i64 o.w, .int .i64 o.s, .int .i64 o.c, .int .u32 o.st, .slice o.ia o.il o.ic, .int .i64 o.wr, .slice o.ra o.rl o.rc]
def Ob.W (o : Ob) : Prop := ObjW o.k o.w o.s o.c o.st o.il o.rl
def Ob.small (o : Ob) : Bool := decide (o.il ≤ 100 ∧ o.rl ≤ 100)
def ReadsT (w : World) (v : Value) (ts : List Tk) : Prop := Reads w 7 v ts.length (ts.flatMap Tk.cells) ∧ ∀ t ∈ ts, i64B t.own
def ReadsO (w : World) (v : Value) (os : List Ob) : Prop := Reads w 8 v os.length (os.flatMap Ob.cells)
theorem ReadsT.chg {w w' : World} {v : Value} {ts : List Tk} (h : ReadsT w v ts) (k : Chg [] w w') : ReadsT w' v ts := ⟨h.1.fresh k, h.2⟩
theorem ReadsO.chg {w w' : World} {v : Value} {os : List Ob} (h : ReadsO w v os) (k : Chg [] w w') : ReadsO w' v os := Reads.fresh h k
def OwnI (w : World) (B : Nat) (v : Value) (zs : List Int) : Prop := w.ownsRow B 3 1 v zs.length (zs.map (Value.int .i64))
theorem sys_tasks {w : World} {n : Nat} {cs : List Value} (h : kit.Opens Try.prog w (n + 4) 46 cs) : ∃ a l c ts, cs = [.slice a l c] ∧ ReadsT w (.slice a l c) ts := by
  obtain ⟨a, l, c, rfl⟩ := h.isSlice Try.underlying46 (by rw [cellsTask]; decide)
  obtain ⟨xs, hx, hxs⟩ := Opens.slice h Try.underlying46 cellsTask (by decide)
  obtain ⟨ts, hl, hx2, hw⟩ := rows_of Tk.cells (fun t => i64B t.own) 7 (fun _ => rfl) l xs hx.1 fun i hi => by
    have hp := hxs i hi
    have hl3 := (hp.struct Try.underlying81).1
    obtain ⟨t0, g0, v0⟩ := (hp.field Try.underlying81 0 _ rfl 0 1 rfl cellsInt).int Try.underlying3
    obtain ⟨t1, g1, v1⟩ := (hp.field Try.underlying81 1 _ rfl 1 1 rfl cellsInt).int Try.underlying3
    obtain ⟨t2, g2, v2⟩ := (hp.field Try.underlying81 2 _ rfl 2 1 rfl cellsInt).int Try.underlying3
    obtain ⟨t3, g3, v3⟩ := (hp.field Try.underlying81 3 _ rfl 3 1 rfl cellsInt).int Try.underlying3
    obtain ⟨t4, g4, v4⟩ := (hp.field Try.underlying81 4 _ rfl 4 1 rfl cellsInt).int Try.underlying3
    obtain ⟨t5, g5, v5⟩ := (hp.field Try.underlying81 5 _ rfl 5 1 rfl cellsInt).int Try.underlying3
    obtain ⟨a6, l6, c6, g6⟩ := (hp.field Try.underlying81 6 _ rfl 6 1 rfl cellsInstrs).isSlice Try.underlying79 (by rw [cellsInstr]; decide)
    rw [cellsTask] at hl3
    refine ⟨⟨t0, t1, t2, t3, t4, t5, a6, l6, c6⟩, ?_, wf_i64 v5⟩
    generalize (xs.drop (i * 7)).take 7 = ys at *
    match ys, hl3 with
    | [y0, y1, y2, y3, y4, y5, y6], _ => simp at g0 g1 g2 g3 g4 g5 g6; rw [g0, g1, g2, g3, g4, g5, g6]; rfl
  refine ⟨a, l, c, ts, rfl, ?_, hw⟩
  rw [hl, ← hx2]
  exact hx
theorem sys_objs {w : World} {n : Nat} {cs : List Value} (h : kit.Opens Try.prog w (n + 6) 47 cs) : ∃ a l c os, cs = [.slice a l c] ∧ ReadsO w (.slice a l c) os ∧ ∀ o ∈ os, o.small = true → o.W := by
  obtain ⟨a, l, c, rfl⟩ := h.isSlice Try.underlying47 (by rw [cellsO]; decide)
  obtain ⟨xs, hx, hxs⟩ := Opens.slice h Try.underlying47 cellsO (by decide)
  obtain ⟨os, hl, hx2, hw⟩ := rows_of Ob.cells (fun o => o.small = true → o.W) 8 (fun _ => rfl) l xs hx.1 fun i hi => by
    obtain ⟨k, w', s, c, st, ia, il, ic, wri, ra, rl, rc, hcs, hb⟩ := obj_open (n := n + 2) (hxs i hi)
    exact ⟨⟨k, w', s, c, st, ia, il, ic, wri, ra, rl, rc⟩, hcs, fun h9 => by simp only [Ob.small, decide_eq_true_eq] at h9; exact hb h9.1 h9.2⟩
  refine ⟨a, l, c, os, rfl, ?_, hw⟩
  unfold ReadsO
  rw [hl, ← hx2]
  exact hx
theorem system_open {w : World} {n : Nat} {cs : List Value} (h : kit.Opens Try.prog w (n + 7) 49 cs) :
    ∃ a l c ts a2 l2 c2 os, cs = [.slice a l c, .slice a2 l2 c2] ∧ ReadsT w (.slice a l c) ts ∧ ReadsO w (.slice a2 l2 c2) os ∧ ∀ o ∈ os, o.small = true → o.W := by
  have hl := (h.struct Try.underlying49).1
  obtain ⟨a, l, c, ts, h0, r0⟩ := sys_tasks (n := n + 2) (h.field Try.underlying49 0 _ rfl 0 1 rfl cellsTasks)
  obtain ⟨a2, l2, c2, os, h1, r1, r2⟩ := sys_objs (n := n) (h.field Try.underlying49 1 _ rfl 1 1 rfl cellsObjs)
  rw [cellsSystem] at hl
  refine ⟨a, l, c, ts, a2, l2, c2, os, ?_, r0, r1, r2⟩
  match cs, hl with
  | [y0, y1], _ => simp at h0 h1; rw [h0, h1]
theorem all_not {R : Type} {p : R → Bool} {l : List R} {j : Nat} {t : R} (h : l[j]? = some t) (hp : p t = false) : l.all p = false := by
  rw [List.all_eq_false]
  exact ⟨t, List.mem_of_getElem? h, by simp [hp]⟩
theorem take_all {R : Type} {p : R → Bool} {l : List R} {j : Nat} {t : R} (ha : (l.take j).all p = true) (h : l[j]? = some t) (hp : p t = true) : (l.take (j + 1)).all p = true := by
  have hj := List.getElem?_eq_some_iff.1 h
  rw [List.take_succ_eq_append_getElem hj.1, List.all_append, ha, hj.2]
  simp [hp]
theorem take_map {R : Type} (f : R → Int) {l : List R} {j : Nat} {t : R} (h : l[j]? = some t) : (l.take (j + 1)).map f = (l.take j).map f ++ [f t] := by
  have hj := List.getElem?_eq_some_iff.1 h
  rw [List.take_succ_eq_append_getElem hj.1, List.map_append, hj.2]
  rfl
end Go.Proofs.Ytjplamoofkcojaa.lay
