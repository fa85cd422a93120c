import Derived.Test.YtphfnjcboellhaaGreatDoorWvSort
import Derived.Test.YtphfnjcboellhaaGreatDoorWvA
namespace Go.Proofs.YtphfnjcboellhaaGreatDoor.wv
open Go Go.RowKit kit obj mem core
set_option maxRecDepth 20000
structure Td where
 (op : Int) (a : Option Addr) (c : Nat) (wds : List Int)
def Td.cells (t : Td) : List Value := [.int .i64 t.op, .slice t.a t.wds.length t.c]
structure PM where
 (left : List Td) (o : Option (Core × List Int)) (call : Nat)
structure Lo where
 (ws : List Int) (ps : List PM) (cs : List Cl) (now : Nat)
def PM.over (p : PM) : Bool := match p.o with
 | none => true
 | some q => q.1.over
def beginM (fr : Int -> Int -> Core) (k : Nat) (L : Lo) (p : PM) : Option (PM × List Cl) :=
 if p.over = false then some (p, L.cs)
 else match p.left with
  | [] => none
  | t :: l => some (⟨l, some (fr t.op (max ((k : Int) - 1) 0), t.wds), L.cs.length⟩, L.cs ++ [⟨k, 0, t.op, t.wds, 0, L.now, -1⟩])
def endC (k now : Nat) (x : Core) (wds : List Int) (c : Cl) : Cl := { c with wds := if 0 < k then wds else c.wds, code := x.code, en := now }
def stepM (K : Kind) (mv : Value) (k : Nat) (L : Lo) (p : PM) (cs : List Cl) : Lo := match p.o with
 | none => L
 | some (x, r) =>
  let q := K.step x mv r L.ws
  ⟨q.2.2, L.ps.set k { p with o := some (q.1, q.2.1) }, if q.1.over = true then cs.modify p.call (endC k L.now q.1 q.2.1) else cs, L.now + 1⟩
def turnM (K : Kind) (mv : Value) (fr : Int -> Int -> Core) (L : Lo) (k : Int) : Lo × Bool :=
 if k < 0 then (L, false) else match L.ps[k.toNat]? with
  | none => (L, false)
  | some p => match beginM fr k.toNat L p with
   | none => (L, false)
   | some (p', cs) => (stepM K mv k.toNat L p' cs, true)
structure ObV where
 (k w s c st : Int) (ia : Option Addr) (il ic : Nat) (wr : Int) (ra : Option Addr) (rl rc : Nat)
def ObV.cells (o : ObV) : List Value := [.int .i64 o.k, .int .i64 o.w, .int .i64 o.s, .int .i64 o.c, .int .u32 o.st, .slice o.ia o.il o.ic, .int .i64 o.wr, .slice o.ra o.rl o.rc]
structure PV where
 (lv : Value) (op : Option (Nat × Nat × Value))
def PV.opv (x : PV) : Value := match x.op with
 | none => .pointer none
 | some (ob, _, _) => .pointer (some ⟨ob, 0, none⟩)
def PV.cells (x : PV) (m : PM) : List Value := [x.lv, x.opv, .int .i64 (m.call : Int)]
def PV.bs (x : PV) : List Nat := match x.op with
 | none => []
 | some (ob, bx, v) => ob :: bx :: v.ownBlock.toList
structure LV where
 (lb mb : Nat) (sv : Value) (nm : Int) (pa : Option Addr) (pc : Nat) (ca : Option Addr) (cc : Nat) (xs : List PV) (rvs : List Value)
def OpAt (kk : Nat) (T : TypeId) (V : World) (mb : Nat) (sv : Value) (ws : List Int) (nm : Int) : Option (Core × List Int) -> Option (Nat × Nat × Value) -> Prop
 | none, none => True
 | some (c, r), some (ob, bx, v) => Blk V ob (opCells kk bx) 102 /\ Pair T bx mb sv V c v r ws nm
 | _, _ => False
theorem OpAt.fresh {kk : Nat} {T : TypeId} {V V' : World} {mb : Nat} {sv : Value} {ws : List Int} {nm : Int} {a : Option (Core × List Int)} {b : Option (Nat × Nat × Value)} (h : OpAt kk T V mb sv ws nm a b) (k : Chg [] V V') : OpAt kk T V' mb sv ws nm a b := by
 match a, b, h with
 | none, none, _ => trivial
 | some (c, r), some (ob, bx, v), h => exact ⟨h.1.keep k (by simp), h.2.keep k⟩
def Apart (a b : Option (Nat × Nat × Value)) : Prop := ∀ ob bx v ob' bx' v', a = some (ob, bx, v) -> b = some (ob', bx', v') -> ob ≠ ob' /\ bx ≠ bx' /\ ∀ y, v.ownBlock = some y -> v'.ownBlock ≠ some y
def PV.enc (p : PV × PM) : List Value := p.1.cells p.2
def rows (xs : List PV) (ps : List PM) : List Value := (List.zip xs ps).flatMap PV.enc
def loomCells (o : ObV) (mb : Nat) (pv cv : Value) (now : Nat) : Array Value := #[.int .i64 o.k, .int .i64 o.w, .int .i64 o.s, .int .i64 o.c, .int .u32 o.st, .slice o.ia o.il o.ic, .int .i64 o.wr, .slice o.ra o.rl o.rc, .pointer (some ⟨mb, 0, none⟩), pv, cv, .int .i64 (now : Int)]
structure LoomAt (kk : Nat) (T : TypeId) (W V : World) (o : ObV) (L : Lo) (z : LV) : Prop where
 box : Blk V z.lb (loomCells o z.mb (.slice z.pa L.ps.length z.pc) (.slice z.ca L.cs.length z.cc) L.now) 59
 procs : V.ownsRow W.heap.size 71 3 (.slice z.pa L.ps.length z.pc) L.ps.length (rows z.xs L.ps)
 calls : V.ownsRow W.heap.size 45 7 (.slice z.ca L.cs.length z.cc) L.cs.length ((cvs L.cs z.rvs).flatMap CV.cells)
 xlen : z.xs.length = L.ps.length
 rlen : z.rvs.length = L.cs.length
 mem : MemAt V z.mb z.sv L.ws z.nm
 left : ∀ (k : Nat) m x, L.ps[k]? = some m -> z.xs[k]? = some x -> Reads W 2 x.lv m.left.length (m.left.flatMap Td.cells) /\ ∀ t ∈ m.left, ReadsW W (.slice t.a t.wds.length t.c) t.wds
 op : ∀ (k : Nat) m x, L.ps[k]? = some m -> z.xs[k]? = some x -> OpAt kk T V z.mb z.sv L.ws z.nm m.o x.op
 recs : ∀ (i : Nat) c r, L.cs[i]? = some c -> z.rvs[i]? = some r -> OwnW V W.heap.size r c.wds /\ ∀ u ∈ c.wds, (Lit.int .u32 u).wf = true
 apart : ∀ (j k : Nat) x y, j ≠ k -> z.xs[j]? = some x -> z.xs[k]? = some y -> Apart x.op y.op
 rvd : ∀ (i : Nat) r (k : Nat) x ob bx v, z.rvs[i]? = some r -> z.xs[k]? = some x -> x.op = some (ob, bx, v) -> ∀ b, r.ownBlock = some b -> v.ownBlock ≠ some b
 rsv : ∀ (i : Nat) r, z.rvs[i]? = some r -> ∀ b, r.ownBlock = some b -> z.sv.ownBlock ≠ some b
 low : W.heap.size <= z.lb /\ W.heap.size <= z.mb /\ (∀ b, z.sv.ownBlock = some b -> W.heap.size <= b) /\ ∀ (k : Nat) x, z.xs[k]? = some x -> ∀ b ∈ x.bs, W.heap.size <= b
 chg : Chg [] W V
theorem LoomAt.fresh {kk : Nat} {T : TypeId} {W V V' : World} {o : ObV} {L : Lo} {z : LV} (h : LoomAt kk T W V o L z) (k : Chg [] V V') : LoomAt kk T W V' o L z :=
 ⟨h.box.keep k (by simp), mem.own_chg h.procs k (by simp), mem.own_chg h.calls k (by simp), h.xlen, h.rlen, h.mem.fresh k, h.left, fun i m x h1 h2 => (h.op i m x h1 h2).fresh k, fun i c r h1 h2 => ⟨mem.own_chg (h.recs i c r h1 h2).1 k (by simp), (h.recs i c r h1 h2).2⟩, h.apart, h.rvd, h.rsv, h.low, h.chg.trans k⟩
structure Ops (kk : Nat) (K : Kind) (T : TypeId) (fr : ObV -> Int -> Int -> Core) (right : ObV -> Prop) (w0 r0 : Int) : Prop where
 step : ∀ {ob bx mb : Nat} {sv v : Value} {W : World} {x : Core} {r ws : List Int} {n : Int}, bitm.Tab W -> 0 ∉ bx :: mb :: (sv.ownBlock.toList ++ v.ownBlock.toList) -> Blk W ob (opCells kk bx) 102 -> K.Shape x r -> 0 <= x.steps /\ x.steps <= 1000000 -> opens x ws.length = true -> 0 <= n /\ n <= 1000000 -> Pair T bx mb sv W x v r ws n →
  Calls Tryz.prog 38 #[.pointer (some ⟨ob, 0, none⟩), .pointer (some ⟨mb, 0, none⟩)] W fun e W' => e = .returned (.bool true) /\ St T bx mb sv W v W' (K.step x (.pointer (some ⟨mb, 0, none⟩)) r ws).1 (K.step x (.pointer (some ⟨mb, 0, none⟩)) r ws).2.1 (K.step x (.pointer (some ⟨mb, 0, none⟩)) r ws).2.2 (n + 1)
 over : ∀ {ob bx mb : Nat} {sv v : Value} {W : World} {x : Core} {r ws : List Int} {n : Int}, Blk W ob (opCells kk bx) 102 -> Pair T bx mb sv W x v r ws n →
  Calls Tryz.prog 39 #[.pointer (some ⟨ob, 0, none⟩)] W fun e W' => e = .returned (.bool x.over) /\ W = W'
 answer : ∀ {ob bx mb : Nat} {sv v : Value} {W : World} {x : Core} {r ws : List Int} {n : Int}, Blk W ob (opCells kk bx) 102 -> Pair T bx mb sv W x v r ws n -> x.over = true →
  Calls Tryz.prog 40 #[.pointer (some ⟨ob, 0, none⟩)] W fun e W' => ∃ v', e = .returned (.tuple #[v', .int .i64 x.code]) /\ OwnW W' W.heap.size v' r /\ Chg [] W W'
 begin_ : ∀ {o : ObV} {op rd_ : Int} {rv : Value} {r : List Int} {W : World}, right o -> ReadsW W rv r -> ((op = w0 /\ rd_ = 0 /\ (r.length : Int) = o.w) \/ (op = r0 /\ 0 <= rd_ /\ rd_ < o.rl /\ r = [])) →
  Calls Tryz.prog 60 #[.agg o.cells.toArray, .int .i64 0, .int .i64 op, .int .i64 rd_, rv] W fun e W' => ∃ ob bx v', e = .returned (.tuple #[.pointer (some ⟨ob, 0, none⟩), .int .i64 0]) /\ Blk W' ob (opCells kk bx) 102 /\ Blk W' bx ((fr o op rd_).cells v') T /\ OwnW W' W.heap.size v' r /\ (∀ y, v'.ownBlock = some y -> y ≠ bx /\ y ≠ ob) /\ (W.heap.size <= ob /\ W.heap.size <= bx /\ ob ≠ bx) /\ Chg [] W W'
def frO (o : ObV) (op rd_ : Int) : Core := freshC o.k o.w o.s o.c o.st o.ia o.il o.ic o.wr o.ra o.rl o.rc (rop.sizeI o.k o.w o.s o.c o.st o.il o.rl) op rd_
def RightO (kk : Int) (o : ObV) : Prop := o.k = kk /\ ObjW o.k o.w o.s o.c o.st o.il o.rl /\ rightB kk o.w o.s o.c o.st o.il o.rl = true
theorem beg0 {kk : Int} {o : ObV} (h : RightO kk o) {op rd_ w0 r0 : Int} {n : Nat} (hwr : w0 ≠ r0) (hb : (op = w0 /\ rd_ = 0 /\ (n : Int) = o.w) \/ (op = r0 /\ 0 <= rd_ /\ rd_ < o.rl /\ n = 0)) : begI o.w o.rl (rop.sizeI o.k o.w o.s o.c o.st o.il o.rl) 0 op rd_ w0 r0 n = 0 /\ n <= 1000 := by
 obtain ⟨hk, hO, hR⟩ := h
 have hbd := rightB_bd hR
 have hsz : 1 <= rop.sizeI o.k o.w o.s o.c o.st o.il o.rl := by
  rw [hk]
  unfold rop.sizeI
  rw [if_pos hR]
  have h1 := (rop.records_bd hR).1
  have h2 : 0 <= rop.recordsI kk o.s o.rl * o.w := Int.mul_nonneg h1 (by omega)
  have h3 : 1 <= rop.headI kk o.rl := by unfold rop.headI; repeat' split; all_goals omega
  omega
 unfold begI
 rcases hb with ⟨rfl, rfl, hn⟩ | ⟨rfl, h1, h2, rfl⟩
 · rw [if_neg (by omega), if_pos rfl, if_neg (by omega), if_neg (by omega)]
   exact ⟨rfl, by omega⟩
 · rw [if_neg (by omega), if_neg (fun h => hwr h.symm), if_pos rfl, if_neg (by omega), if_neg (by omega)]
   exact ⟨rfl, by omega⟩
theorem ops_four : Ops 1 four.K 123 frO (RightO 1) 2 1 where
 step := fun hT h0 hb hI hs ho hn h => step_four hT h0 hb hI hs ho hn h
 over := fun hb h => over_four hb h
 answer := fun hb h ho => answer_four hb h ho
 begin_ := by
  intro o op rd_ rv r W hR hr hb
  obtain ⟨hg, hl⟩ := beg0 hR (n := r.length) (w0 := 2) (r0 := 1) (by decide) (by rcases hb with h | ⟨h1, h2, h3, h4⟩; exact .inl h; exact .inr ⟨h1, h2, h3, by rw [h4]; rfl⟩)
  exact begin_four o.k o.w o.s o.c o.st o.ia o.il o.ic o.wr o.ra o.rl o.rc op rd_ rv r W hR.1 hR.2.1 hr hl hg
theorem ops_chen : Ops 2 chen.K 124 frO (RightO 2) 2 1 where
 step := fun hT h0 hb hI hs ho hn h => step_chen hT h0 hb hI hs ho hn h
 over := fun hb h => over_chen hb h
 answer := fun hb h ho => answer_chen hb h ho
 begin_ := by
  intro o op rd_ rv r W hR hr hb
  obtain ⟨hg, hl⟩ := beg0 hR (n := r.length) (w0 := 2) (r0 := 1) (by decide) (by rcases hb with h | ⟨h1, h2, h3, h4⟩; exact .inl h; exact .inr ⟨h1, h2, h3, by rw [h4]; rfl⟩)
  exact begin_chen o.k o.w o.s o.c o.st o.ia o.il o.ic o.wr o.ra o.rl o.rc op rd_ rv r W hR.1 hR.2.1 hr hl hg
theorem ops_seq : Ops 3 seq.K 125 frO (RightO 3) 2 1 where
 step := fun hT h0 hb hI hs ho hn h => step_seq hT h0 hb hI hs ho hn h
 over := fun hb h => over_seq hb h
 answer := fun hb h ho => answer_seq hb h ho
 begin_ := by
  intro o op rd_ rv r W hR hr hb
  obtain ⟨hg, hl⟩ := beg0 hR (n := r.length) (w0 := 2) (r0 := 1) (by decide) (by rcases hb with h | ⟨h1, h2, h3, h4⟩; exact .inl h; exact .inr ⟨h1, h2, h3, by rw [h4]; rfl⟩)
  exact begin_seq o.k o.w o.s o.c o.st o.ia o.il o.ic o.wr o.ra o.rl o.rc op rd_ rv r W hR.1 hR.2.1 hr hl hg
theorem ops_ring : Ops 4 ring.K 126 frO (RightO 4) 2 1 where
 step := fun hT h0 hb hI hs ho hn h => step_ring hT h0 hb hI hs ho hn h
 over := fun hb h => over_ring hb h
 answer := fun hb h ho => answer_ring hb h ho
 begin_ := by
  intro o op rd_ rv r W hR hr hb
  obtain ⟨hg, hl⟩ := beg0 hR (n := r.length) (w0 := 2) (r0 := 1) (by decide) (by rcases hb with h | ⟨h1, h2, h3, h4⟩; exact .inl h; exact .inr ⟨h1, h2, h3, by rw [h4]; rfl⟩)
  exact begin_ring o.k o.w o.s o.c o.st o.ia o.il o.ic o.wr o.ra o.rl o.rc op rd_ rv r W hR.1 hR.2.1 hr hl hg
theorem ops_cab : Ops 5 cab.K 127 frO (RightO 5) 2 1 where
 step := fun hT h0 hb hI hs ho hn h => step_cab hT h0 hb hI hs ho hn h
 over := fun hb h => over_cab hb h
 answer := fun hb h ho => answer_cab hb h ho
 begin_ := by
  intro o op rd_ rv r W hR hr hb
  obtain ⟨hg, hl⟩ := beg0 hR (n := r.length) (w0 := 2) (r0 := 1) (by decide) (by rcases hb with h | ⟨h1, h2, h3, h4⟩; exact .inl h; exact .inr ⟨h1, h2, h3, by rw [h4]; rfl⟩)
  exact begin_cab o.k o.w o.s o.c o.st o.ia o.il o.ic o.wr o.ra o.rl o.rc op rd_ rv r W hR.1 hR.2.1 hr hl hg
theorem ops_fifo : Ops 6 fifo.K 128 frO (RightO 6) 3 4 where
 step := fun hT h0 hb hI hs ho hn h => step_fifo hT h0 hb hI hs ho hn h
 over := fun hb h => over_fifo hb h
 answer := fun hb h ho => answer_fifo hb h ho
 begin_ := by
  intro o op rd_ rv r W hR hr hb
  obtain ⟨hg, hl⟩ := beg0 hR (n := r.length) (w0 := 3) (r0 := 4) (by decide) (by rcases hb with h | ⟨h1, h2, h3, h4⟩; exact .inl h; exact .inr ⟨h1, h2, h3, by rw [h4]; rfl⟩)
  exact begin_fifo o.k o.w o.s o.c o.st o.ia o.il o.ic o.wr o.ra o.rl o.rc op rd_ rv r W hR.1 hR.2.1 hr hl hg
theorem szTodo : (Tryz.prog.info? 43).map (·.size) = some 2 := by kernel_rfl
theorem szProc : (Tryz.prog.info? 71).map (·.size) = some 3 := by kernel_rfl
theorem tail_any {w : World} {v : Value} {n : Nat} {xs : List Value} (h : Reads w 2 v (n + 1) xs) : ∃ a c, (∀ u, (Instr.slice 41 v (some (.int .i64 1)) none none).run Tryz.prog u = .ok (.slice a n c) u) /\ Reads w 2 (.slice a n c) n (xs.drop 2) := by
 have hel : Tryz.prog.elem 41 = 43 := by simp [Program.elem, Tryz.underlying41]
 obtain ⟨h1, h2, ⟨h0, a, c, rfl, _⟩ | ⟨h0, b, off, c, rfl, hn, hc, hx⟩⟩ := h
 · omega
 · have e1 : ∀ u, (Instr.slice 41 (.slice (some ⟨b, off, none⟩) (n + 1) c) (some (.int .i64 1)) none none).run Tryz.prog u = .ok (sliced (some ⟨b, off, none⟩) 1 (n + 1) c 2) u := fun u => by
    rw [run_slice_l (P := Tryz.prog) (w := u) 41 (some ⟨b, off, none⟩) (n + 1) c (by rw [hel]; exact Tryz.underlying41) .i64 1 (by omega) (by omega), hel, sizeOf_run szTodo]
    simp [Result.andThen]
   by_cases hci : c = 1
   · have hn0 : n = 0 := by omega
     subst hn0
     refine ⟨some ⟨b, off, none⟩, 0, fun u => by rw [e1 u]; simp [sliced, hci], ?_⟩
     have hnil : xs.drop 2 = [] := List.eq_nil_of_length_eq_zero (by rw [List.length_drop]; omega)
     rw [hnil]
     exact ⟨rfl, Nat.zero_le _, .inl ⟨rfl, _, _, rfl, (fun h => by cases h), by omega⟩⟩
   · refine ⟨some ⟨b, off + 2, none⟩, c - 1, fun u => by rw [e1 u]; simp [sliced, hci, add_plain], ?_⟩
     refine ⟨by rw [List.length_drop, h1]; omega, by omega, ?_⟩
     rcases Nat.eq_zero_or_pos n with hz | hz
     · subst hz
       exact .inl ⟨rfl, _, _, rfl, (fun h => by cases h), by omega⟩
     · exact .inr ⟨hz, b, off + 2, c - 1, rfl, by omega, by omega, fun j u hu => by rw [List.getElem?_drop] at hu; have := hx _ u hu; rwa [<- Nat.add_assoc] at this⟩
theorem row_cell {α : Type} {enc : α -> List Value} {sz : Nat} (hsz : ∀ x, (enc x).length = sz) {w : World} {B g c : Nat} {T : TypeId} {l : List α} (h : w.ownsRow B T sz (.slice (some ⟨g, 0, none⟩) l.length c) l.length (l.flatMap enc)) (j f : Nat) (hf : f < sz) (x : α) (hj : l[j]? = some x) (v : Value) (hv : (enc x)[f]? = some v) :
 w.cell? ⟨g, j * sz + f, none⟩ = some v /\ w.frozen? ⟨g, j * sz + f, none⟩ = false := by
 have hjl : j < l.length := by
  rcases Nat.lt_or_ge j l.length with h1 | h1
  · exact h1
  · rw [List.getElem?_eq_none h1] at hj; cases hj
 have hb : j * sz + f < l.length * sz := by
  have h2 := Nat.mul_le_mul_right sz (Nat.succ_le_of_lt hjl)
  rw [Nat.succ_mul] at h2
  omega
 have e0 := World.ownsRow.cellAt h (j * sz + f) hb
 have h0 := flatMap_get enc sz hsz l j f hf _ hj
 rw [h0, hv] at e0
 exact ⟨e0, World.ownsRow.frozenAt h _⟩
theorem flatMap_setf {α : Type} (enc : α -> List Value) (sz : Nat) (hsz : ∀ x, (enc x).length = sz) (f : Nat) (hf : f < sz) (v : Value) : ∀ (l : List α) (j : Nat) (x y : α), l[j]? = some x -> enc y = (enc x).set f v -> (l.flatMap enc).set (j * sz + f) v = (l.set j y).flatMap enc
 | [], j, x, y, h, _ => by cases h
 | a :: l, 0, x, y, h, he => by
  cases h
  rw [List.set_cons_zero, List.flatMap_cons, List.flatMap_cons, he, Nat.zero_mul, Nat.zero_add, List.set_append_left _ _ (by rw [hsz]; exact hf)]
 | a :: l, j + 1, x, y, h, he => by
  rw [List.set_cons_succ, List.flatMap_cons, List.flatMap_cons, ← flatMap_setf enc sz hsz f hf v l j x y (by simpa using h) he, Nat.succ_mul,
   List.set_append_right _ _ (by rw [hsz]; omega), hsz]
  congr 2; omega
theorem row_put {α : Type} {enc : α -> List Value} {sz : Nat} (hsz : ∀ x, (enc x).length = sz) {w : World} {B g c : Nat} {T : TypeId} {l : List α} (h : w.ownsRow B T sz (.slice (some ⟨g, 0, none⟩) l.length c) l.length (l.flatMap enc)) (j f : Nat) (hf : f < sz) (x y : α) (hj : l[j]? = some x) (v : Value) (he : enc y = (enc x).set f v) :
 (w.setCell ⟨g, j * sz + f, none⟩ v).ownsRow B T sz (.slice (some ⟨g, 0, none⟩) (l.set j y).length c) (l.set j y).length ((l.set j y).flatMap enc) := by
 have h1 := (World.ownsRow.stored h (j * sz + f) v).1
 rw [flatMap_setf enc sz hsz f hf v l j x y hj he] at h1
 rw [List.length_set]
 exact h1
theorem zip_get {xs : List PV} {ps : List PM} {k : Nat} {x : PV} {m : PM} (h1 : xs[k]? = some x) (h2 : ps[k]? = some m) : (List.zip xs ps)[k]? = some (x, m) := by
 rw [List.getElem?_zip_eq_some]
 exact ⟨h1, h2⟩
theorem zip_set (x : PV) (m : PM) : ∀ (xs : List PV) (ps : List PM) (k : Nat), (List.zip xs ps).set k (x, m) = List.zip (xs.set k x) (ps.set k m)
 | [], ps, k => by simp
 | y :: xs, [], k => by simp
 | y :: xs, p :: ps, 0 => rfl
 | y :: xs, p :: ps, k + 1 => by
  simp only [List.zip_cons_cons, List.set_cons_succ]
  rw [zip_set x m xs ps k]
theorem index_at {t e size : Nat} (ht : Tryz.prog.underlying t = some (.slice e)) (he : (Tryz.prog.info? e).map (·.size) = some size) (g n c j : Nat) (hj : j < n) (u : World) : (Instr.indexAt t (.slice (some ⟨g, 0, none⟩) n c) (.int .i64 (j : Int))).run Tryz.prog u = .ok (.pointer (some ⟨g, j * size, none⟩)) u := by
 have hel : Tryz.prog.elem t = e := by simp [Program.elem, ht]
 rw [run_indexAt_slice (P := Tryz.prog) u t ⟨g, 0, none⟩ n c .i64 j (by rw [hel]; exact ht), hel, sizeOf_run he, if_pos ⟨by omega, by omega⟩]
 simp [Result.andThen, kit.add_plain]
section
variable {kk : Nat} {T : TypeId} {W V : World} {o : ObV} {L : Lo} {z : LV}
theorem LoomAt.addr (h : LoomAt kk T W V o L z) (hn : 0 < L.ps.length) : ∃ g, z.pa = some ⟨g, 0, none⟩ := by
 rcases h.procs.2 with ⟨h1, h0⟩ | ⟨g, cap, cur, hv, hB, hg, h4⟩
 · omega
 · simp only [Value.slice.injEq] at hv
   exact ⟨g, hv.1⟩
theorem LoomAt.zlen (h : LoomAt kk T W V o L z) : (List.zip z.xs L.ps).length = L.ps.length := by rw [List.length_zip, h.xlen, Nat.min_self]
theorem LoomAt.prow (h : LoomAt kk T W V o L z) {g : Nat} (hg : z.pa = some ⟨g, 0, none⟩) : V.ownsRow W.heap.size 71 3 (.slice (some ⟨g, 0, none⟩) (List.zip z.xs L.ps).length z.pc) (List.zip z.xs L.ps).length ((List.zip z.xs L.ps).flatMap PV.enc) := by
 rw [h.zlen, ← hg]; exact h.procs
theorem LoomAt.pcell (h : LoomAt kk T W V o L z) {g : Nat} (hg : z.pa = some ⟨g, 0, none⟩) {k : Nat} {x : PV} {m : PM} (hx : z.xs[k]? = some x) (hm : L.ps[k]? = some m) :
 (V.cell? ⟨g, k * 3, none⟩ = some x.lv /\ V.cell? ⟨g, k * 3 + 1, none⟩ = some x.opv /\ V.cell? ⟨g, k * 3 + 2, none⟩ = some (.int .i64 (m.call : Int))) /\ ∀ f, f < 3 -> V.frozen? ⟨g, k * 3 + f, none⟩ = false := by
 have hr := h.prow hg
 have hc := fun f v (hf : f < 3) hv => row_cell (enc := PV.enc) (sz := 3) (fun _ => rfl) hr k f hf (x, m) (zip_get hx hm) v hv
 have h0 := (hc 0 _ (by decide) rfl).1
 rw [Nat.add_zero] at h0
 exact ⟨⟨h0, (hc 1 _ (by decide) rfl).1, (hc 2 _ (by decide) rfl).1⟩, fun f hf => World.ownsRow.frozenAt hr _⟩
theorem LoomAt.pv (h : LoomAt kk T W V o L z) {k : Nat} (hk : k < L.ps.length) : ∃ x, z.xs[k]? = some x := ⟨_, List.getElem?_eq_getElem (by rw [h.xlen]; exact hk)⟩
theorem LoomAt.overs {fr : ObV -> Int -> Int -> Core} {right : ObV -> Prop} {w0 r0 : Int} {K : Kind} (H : Ops kk K T fr right w0 r0) (h : LoomAt kk T W V o L z) {k : Nat} {x : PV} {m : PM} (hx : z.xs[k]? = some x) (hm : L.ps[k]? = some m) :
 Calls Tryz.prog 39 #[x.opv] V fun e W' => e = .returned (.bool m.over) /\ V = W' := by
 have ho := h.op k m x hm hx
 obtain ⟨lv, op⟩ := x
 obtain ⟨left, mo, call⟩ := m
 match mo, op, ho with
 | none, none, _ => exact Over_nil V
 | some (c, r), some (ob, bx, v), ho => exact H.over ho.1 ho.2
end
set_option maxHeartbeats 4000000 in
theorem begin_idle {kk : Nat} {T : TypeId} {fr : ObV -> Int -> Int -> Core} {right : ObV -> Prop} {w0 r0 : Int} {K : Kind} (H : Ops kk K T fr right w0 r0) {W V : World} {o : ObV} {L : Lo} {z : LV} (h : LoomAt kk T W V o L z) {k : Nat} {m : PM} (hm : L.ps[k]? = some m) (hjd : m.over = false \/ m.left = []) :
 Calls Tryz.prog 37 #[.pointer (some ⟨z.lb, 0, none⟩), .int .i64 (k : Int)] V fun e V' => e = .returned (.bool (!m.over)) /\ Chg [] V V' := by
 have hk : k < L.ps.length := (List.getElem?_eq_some_iff.1 hm).1
 obtain ⟨x, hx⟩ := h.pv hk
 obtain ⟨g, hg⟩ := h.addr (by omega)
 obtain ⟨⟨p0, p1, p2⟩, -⟩ := h.pcell hg hx hm
 have hov := h.overs H hx hm
 have c9 : V.cell? ⟨z.lb, 9, none⟩ = some (.slice z.pa L.ps.length z.pc) := h.box.cell rfl
 rw [hg] at c9
 obtain ⟨n, hn⟩ : ∃ n, L.ps.length = n := ⟨_, rfl⟩
 rw [hn] at c9 hk
 have ix := index_at (size := 3) Tryz.underlying57 szProc g n z.pc k hk
 obtain ⟨la, lc, hlv⟩ : ∃ a c, x.lv = .slice a m.left.length c := by
  obtain ⟨a, c, e, _⟩ := reads_slice (h.left k m x hm hx).1; exact ⟨a, c, e⟩
 rw [hlv] at p0
 have HO := hid hov
 obtain ⟨b, hb⟩ : ∃ b, m.over = b := ⟨_, rfl⟩
 rw [hb] at HO hjd ⊢
 obtain ⟨opv, hopv⟩ : ∃ y, x.opv = y := ⟨_, rfl⟩
 rw [hopv] at HO p1
 have hl : b = true -> m.left.length = 0 := fun hb2 => by
  rcases hjd with h1 | h1
  · rw [h1] at hb2; cases hb2
  · rw [h1]; rfl
 clear hm hjd hx hg hov hn hlv hb hopv hk h H p2
 cases b with
 | false =>
  clear hl
  go_enter Tryz.func37, Tryz.ntmps37
  go_wp2_with (go_at_call 39; refine HO.out.mono ?_; rintro e w1 ⟨rfl, rfl⟩)
  go_ret
  exact ⟨rfl, Chg.refl _ _⟩
 | true =>
  rw [hl rfl] at p0
  clear hl
  go_enter Tryz.func37, Tryz.ntmps37
  go_wp2_with (go_at_call 39; refine HO.out.mono ?_; rintro e w1 ⟨rfl, rfl⟩)
  go_ret
  exact ⟨rfl, Chg.refl _ _⟩
theorem Pair.keepL {T : TypeId} {bx mb : Nat} {sv v : Value} {W W' : World} {x : Core} {r ws : List Int} {n : Int} {S : List Nat} (h : Pair T bx mb sv W x v r ws n) (c : Chg S W W') (h1 : bx ∉ S) (h2 : ∀ y, v.ownBlock = some y -> y ∉ S) (h3 : mb ∉ S) (h4 : ∀ y, sv.ownBlock = some y -> y ∉ S) : Pair T bx mb sv W' x v r ws n :=
 ⟨h.box.keep c h1, mem.own_chg h.row c h2, h.wf, h.short, h.mem.keep c h3 h4, h.ne, h.ns, h.nv⟩
theorem blk_ne {w : World} {b b' : Nat} {c c' : Array Value} {T T' : TypeId} (h : Blk w b c T) (h' : Blk w b' c' T') (hT : T ≠ T') : b ≠ b' := by
 rintro rfl
 unfold Blk at h h'
 rw [h] at h'
 simp at h'
 exact hT h'.2
section
variable {kk : Nat} {T : TypeId} {W V V' : World} {o : ObV} {L : Lo} {z : LV}
theorem LoomAt.ne_row (h : LoomAt kk T W V o L z) {T0 : TypeId} {s n : Nat} {v0 : Value} {xs0 : List Value} {B0 : Nat} (hr : V.ownsRow B0 T0 s v0 n xs0) {g : Nat} (hg : v0.ownBlock = some g) (t1 : T0 ≠ 59) (t2 : T0 ≠ 86) (t3 : T0 ≠ 22) (t4 : T0 ≠ 102) (t5 : T0 ≠ T) :
 g ≠ z.lb /\ g ≠ z.mb /\ (∀ y, z.sv.ownBlock = some y -> y ≠ g) /\ (∀ (k : Nat) m x ob bx v, L.ps[k]? = some m -> z.xs[k]? = some x -> x.op = some (ob, bx, v) -> ob ≠ g /\ bx ≠ g /\ ∀ y, v.ownBlock = some y -> y ≠ g) /\ ∀ (i : Nat) c r, L.cs[i]? = some c -> z.rvs[i]? = some r -> ∀ y, r.ownBlock = some y -> y ≠ g := by
 refine ⟨own_type hr h.box t1 g hg, own_type hr h.mem.box t2 g hg, fun y hy he => ?_, fun k m x ob bx v hm hx ho => ?_, fun i c r hc hr2 y hy he => ?_⟩
 · subst he; exact own_type2 hr h.mem.row t3 _ hg hy
 · have hop := h.op k m x hm hx
   rw [ho] at hop
   match hmo : m.o, hop with
   | none, hop => exact (show False from hop).elim
   | some (c, r), hop =>
    obtain ⟨h1, h2⟩ := hop
    refine ⟨fun he => own_type hr h1 t4 g hg he.symm, fun he => own_type hr h2.box t5 g hg he.symm, fun y hy he => ?_⟩
    subst he; exact own_type2 hr h2.row t3 _ hg hy
 · subst he; exact own_type2 hr (h.recs i c r hc hr2).1 t3 _ hg hy
theorem OpAt.keepL {mb : Nat} {sv : Value} {ws : List Int} {nm : Int} {a : Option (Core × List Int)} {b : Option (Nat × Nat × Value)} {S : List Nat} (h : OpAt kk T V mb sv ws nm a b) (c : Chg S V V') (hb : ∀ ob bx v, b = some (ob, bx, v) -> ob ∉ S /\ bx ∉ S /\ ∀ y, v.ownBlock = some y -> y ∉ S) (h3 : mb ∉ S) (h4 : ∀ y, sv.ownBlock = some y -> y ∉ S) : OpAt kk T V' mb sv ws nm a b := by
 match a, b, h with
 | none, none, _ => trivial
 | some (c1, r), some (ob, bx, v), h =>
  obtain ⟨k1, k2, k3⟩ := hb ob bx v rfl
  exact ⟨h.1.keep c k1, Pair.keepL h.2 c k2 k3 h3 h4⟩
theorem LoomAt.setProc (h : LoomAt kk T W V o L z) (tT : T ≠ 71) {g k : Nat} (hg : z.pa = some ⟨g, 0, none⟩) (c : Chg [g] V V') (x' : PV) (m' : PM)
 (hp : V'.ownsRow W.heap.size 71 3 (.slice z.pa L.ps.length z.pc) L.ps.length (rows (z.xs.set k x') (L.ps.set k m')))
 (hl : Reads W 2 x'.lv m'.left.length (m'.left.flatMap Td.cells) /\ ∀ t ∈ m'.left, ReadsW W (.slice t.a t.wds.length t.c) t.wds)
 (ho : OpAt kk T V' z.mb z.sv L.ws z.nm m'.o x'.op)
 (ha : ∀ (j : Nat) y, j ≠ k -> z.xs[j]? = some y -> Apart x'.op y.op /\ Apart y.op x'.op)
 (hr : ∀ (i : Nat) r ob bx v, z.rvs[i]? = some r -> x'.op = some (ob, bx, v) -> ∀ b, r.ownBlock = some b -> v.ownBlock ≠ some b)
 (hb : ∀ b ∈ x'.bs, W.heap.size <= b) :
 LoomAt kk T W V' o { L with ps := L.ps.set k m' } { z with xs := z.xs.set k x' } := by
 have hgb : (Value.slice z.pa L.ps.length z.pc).ownBlock = some g := by rw [hg]; rfl
 obtain ⟨n1, n2, n3, n4, n5⟩ := h.ne_row h.procs hgb (by decide) (by decide) (by decide) (by decide) (fun he => tT he.symm)
 have hs : ∀ {y}, y ∈ [g] -> y = g := fun hy => List.mem_singleton.1 hy
 refine ⟨?_, ?_, mem.own_chg h.calls c (fun y hy hm => own_type2 h.calls h.procs (by decide) y hy (by rw [hs hm]; exact hgb)), by simp [h.xlen], h.rlen, h.mem.keep c (fun hm => n2 (hs hm).symm) (fun y hy hm => n3 y hy (hs hm)), fun j m x hm hx => ?_, fun j m x hm hx => ?_, fun i c' r h1 h2 => ⟨mem.own_chg (h.recs i c' r h1 h2).1 c (fun y hy hm => n5 i c' r h1 h2 y hy (hs hm)), (h.recs i c' r h1 h2).2⟩, fun j l x y hjl hx hy => ?_, fun i r j x ob bx v h1 h2 h3 => ?_, h.rsv, ⟨h.low.1, h.low.2.1, h.low.2.2.1, fun j x hx => ?_⟩, h.chg.into c (fun y hy => .inr (by rw [hs hy]; exact (World.ownsRow.lt h.procs g hgb).1))⟩
 · show Blk V' z.lb (loomCells o z.mb (.slice z.pa (L.ps.set k m').length z.pc) (.slice z.ca L.cs.length z.cc) L.now) _
   rw [List.length_set]; exact h.box.keep c (fun hm => n1 (hs hm).symm)
 · show V'.ownsRow _ _ 3 (.slice z.pa (L.ps.set k m').length z.pc) (L.ps.set k m').length _
   rw [List.length_set]; exact hp
 · simp only [List.getElem?_set] at hm hx
   by_cases hjk : k = j
   · subst hjk
     rw [if_pos rfl] at hm hx
     split at hm
     · split at hx
       · cases hm
         cases hx
         exact hl
       · cases hx
     · cases hm
   · rw [if_neg hjk] at hm hx
     exact h.left j m x hm hx
 · simp only [List.getElem?_set] at hm hx
   by_cases hjk : k = j
   · subst hjk
     rw [if_pos rfl] at hm hx
     split at hm
     · split at hx
       · cases hm
         cases hx
         exact ho
       · cases hx
     · cases hm
   · rw [if_neg hjk] at hm hx
     exact (h.op j m x hm hx).keepL c (fun ob bx v he => by
      obtain ⟨k1, k2, k3⟩ := n4 j m x ob bx v hm hx he
      exact ⟨fun hm => k1 (hs hm), fun hm => k2 (hs hm), fun y hy hm => k3 y hy (hs hm)⟩) (fun hm => n2 (hs hm).symm) (fun y hy hm => n3 y hy (hs hm))
 · simp only [List.getElem?_set] at hx hy
   by_cases h1 : k = j
   · rw [if_pos h1] at hx
     by_cases h2 : k = l
     · exact absurd (h1.symm.trans h2) hjl
     · rw [if_neg h2] at hy
       split at hx
       · cases hx
         exact (ha l y (fun he => h2 he.symm) hy).1
       · cases hx
   · rw [if_neg h1] at hx
     by_cases h2 : k = l
     · rw [if_pos h2] at hy
       split at hy
       · cases hy
         exact (ha j x (fun he => h1 he.symm) hx).2
       · cases hy
     · rw [if_neg h2] at hy
       exact h.apart j l x y hjl hx hy
 · simp only [List.getElem?_set] at h2
   by_cases h4 : k = j
   · rw [if_pos h4] at h2
     split at h2
     · cases h2
       exact hr i r ob bx v h1 h3
     · cases h2
   · rw [if_neg h4] at h2
     exact h.rvd i r j x ob bx v h1 h2 h3
 · simp only [List.getElem?_set] at hx
   by_cases h4 : k = j
   · rw [if_pos h4] at hx
     split at hx
     · cases hx
       exact hb
     · cases hx
   · rw [if_neg h4] at hx
     exact h.low.2.2.2 j x hx
theorem LoomAt.ne_box (h : LoomAt kk T W V o L z) (tT : T ≠ 59) : z.mb ≠ z.lb /\ (∀ y, z.sv.ownBlock = some y -> y ≠ z.lb) /\ (∀ (k : Nat) m x ob bx v, L.ps[k]? = some m -> z.xs[k]? = some x -> x.op = some (ob, bx, v) -> ob ≠ z.lb /\ bx ≠ z.lb /\ ∀ y, v.ownBlock = some y -> y ≠ z.lb) /\ ∀ (i : Nat) c r, L.cs[i]? = some c -> z.rvs[i]? = some r -> ∀ y, r.ownBlock = some y -> y ≠ z.lb := by
 refine ⟨blk_ne h.mem.box h.box (by decide), own_type h.mem.row h.box (by decide), fun k m x ob bx v hm hx ho => ?_, fun i c r hc hr2 => own_type (h.recs i c r hc hr2).1 h.box (by decide)⟩
 have hop := h.op k m x hm hx
 rw [ho] at hop
 match hmo : m.o, hop with
 | none, hop => exact (show False from hop).elim
 | some (c, r), hop => exact ⟨blk_ne hop.1 h.box (by decide), blk_ne hop.2.box h.box tT, own_type hop.2.row h.box (by decide)⟩
theorem LoomAt.setCalls (h : LoomAt kk T W V o L z) (tT : T ≠ 59 /\ T ≠ 45) (c : Chg (z.lb :: (Value.slice z.ca L.cs.length z.cc).ownBlock.toList) V V') (ca' : Option Addr) (cc' : Nat) (cs' : List Cl) (rvs' : List Value) (now' : Nat)
 (hbox : Blk V' z.lb (loomCells o z.mb (.slice z.pa L.ps.length z.pc) (.slice ca' cs'.length cc') now') 59)
 (hrow : V'.ownsRow W.heap.size 45 7 (.slice ca' cs'.length cc') cs'.length ((cvs cs' rvs').flatMap CV.cells))
 (hlen : rvs'.length = cs'.length)
 (hr : ∀ (i : Nat) cl r, cs'[i]? = some cl -> rvs'[i]? = some r -> OwnW V' W.heap.size r cl.wds /\ ∀ u ∈ cl.wds, (Lit.int .u32 u).wf = true)
 (hrx : ∀ (i : Nat) r (k : Nat) x ob bx v, rvs'[i]? = some r -> z.xs[k]? = some x -> x.op = some (ob, bx, v) -> ∀ b, r.ownBlock = some b -> v.ownBlock ≠ some b)
 (hrs : ∀ (i : Nat) r, rvs'[i]? = some r -> ∀ b, r.ownBlock = some b -> z.sv.ownBlock ≠ some b) :
 LoomAt kk T W V' o { L with cs := cs', now := now' } { z with ca := ca', cc := cc', rvs := rvs' } := by
 obtain ⟨b1, b2, b3, b4⟩ := h.ne_box tT.1
 have hs : ∀ {y}, y ∈ z.lb :: (Value.slice z.ca L.cs.length z.cc).ownBlock.toList -> y = z.lb \/ (Value.slice z.ca L.cs.length z.cc).ownBlock = some y := fun hy => by
  rcases List.mem_cons.1 hy with hy | hy
  · exact .inl hy
  · exact .inr (Option.mem_toList.1 hy)
 have hne := fun {g : Nat} (hg : (Value.slice z.ca L.cs.length z.cc).ownBlock = some g) => h.ne_row h.calls hg (by decide) (by decide) (by decide) (by decide) (fun he => tT.2 he.symm)
 have hmb : z.mb ∉ z.lb :: (Value.slice z.ca L.cs.length z.cc).ownBlock.toList := fun hm => by
  rcases hs hm with h1 | h1
  · exact b1 h1
  · exact (hne h1).2.1 rfl
 have hsv : ∀ y, z.sv.ownBlock = some y -> y ∉ z.lb :: (Value.slice z.ca L.cs.length z.cc).ownBlock.toList := fun y hy hm => by
  rcases hs hm with h1 | h1
  · exact b2 y hy h1
  · exact (hne h1).2.2.1 y hy rfl
 refine ⟨hbox, mem.own_chg h.procs c (fun y hy hm => ?_), hrow, h.xlen, hlen, h.mem.keep c hmb hsv, h.left, fun j m x hm hx => ?_, hr, h.apart, hrx, hrs, h.low, h.chg.into c (fun y hy => .inr ?_)⟩
 · rcases hs hm with h1 | h1
   · exact own_type h.procs h.box (by decide) y hy h1
   · exact own_type2 h.procs h.calls (by decide) y hy h1
 · refine (h.op j m x hm hx).keepL c (fun ob bx v he => ?_) hmb hsv
   obtain ⟨k1, k2, k3⟩ := b3 j m x ob bx v hm hx he
   refine ⟨fun hmm => ?_, fun hmm => ?_, fun y hy hmm => ?_⟩
   · rcases hs hmm with h1 | h1
     · exact k1 h1
     · exact ((hne h1).2.2.2.1 j m x ob bx v hm hx he).1 rfl
   · rcases hs hmm with h1 | h1
     · exact k2 h1
     · exact ((hne h1).2.2.2.1 j m x ob bx v hm hx he).2.1 rfl
   · rcases hs hmm with h1 | h1
     · exact k3 y hy h1
     · exact ((hne h1).2.2.2.1 j m x ob bx v hm hx he).2.2 y hy rfl
 · rcases hs hy with h1 | h1
   · rw [h1]; exact h.low.1
   · exact (World.ownsRow.lt h.calls y h1).1
end
end Go.Proofs.YtphfnjcboellhaaGreatDoor.wv
