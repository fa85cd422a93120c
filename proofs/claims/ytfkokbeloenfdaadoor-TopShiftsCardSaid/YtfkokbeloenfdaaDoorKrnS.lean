/- The kernel's state; event, let. -/
import Derived.Test.YtfkokbeloenfdaaDoorKrnR
namespace Go.Proofs.YtfkokbeloenfdaaDoor.krn
open Go Go.RowKit Go.Proofs.YtfkokbeloenfdaaDoor.kit Go.Shelf
set_option linter.unusedVariables false
set_option linter.unusedSimpArgs false
set_option maxRecDepth 20000
structure Kn where
  (l : List Tk) (prio : List Int) (led : Led) (due : List Du) (last : Int → Option Int) (now : Int) (opn : Bool)
structure KQ where
  (la : Option Addr) (lc : Nat) (pa : Option Addr) (pc : Nat) (lb : Nat) (lq : LedQ) (ab : Nat) (da : Option Addr) (dc : Nat) (mb : Nat)
def KQ.rest (q : KQ) (kb : Nat) : List Nat := kb :: q.ab :: q.mb :: ((q.la.map (·.block)).toList ++ (q.pa.map (·.block)).toList ++ (q.da.map (·.block)).toList)
def KQ.all (q : KQ) (kb : Nat) : List Nat := q.rest kb ++ q.lq.bs q.lb
def blk (a : Option Addr) : List Nat := (a.map (·.block)).toList
structure KAt (w : World) (B kb n : Nat) (k : Kn) (q : KQ) : Prop where
  box : Blk w kb #[.slice q.la k.l.length q.lc, .slice q.pa k.prio.length q.pc, .pointer (some ⟨q.lb, 0, none⟩), .pointer (some ⟨q.ab, 0, none⟩), .map (some q.mb), .int .i64 k.now, .bool k.opn] 66
  rl : w.ownsRow B 33 7 (.slice q.la k.l.length q.lc) k.l.length (k.l.flatMap Tk.cells)
  rp : w.ownsRow B 3 1 (.slice q.pa k.prio.length q.pc) k.prio.length (intV k.prio)
  led : LedAt w B q.lb n k.led q.lq
  ag : AgAt w B q.ab (k.l.length : Int) q.da q.dc k.due
  ml : MapI w q.mb n k.last
  dj : ∀ y ∈ q.lq.bs q.lb, y ∉ q.rest kb
theorem KQ.mem {q : KQ} {kb y : Nat} (h : y ∈ q.rest kb) : y = kb ∨ y = q.ab ∨ y = q.mb ∨ q.la.map (·.block) = some y ∨ q.pa.map (·.block) = some y ∨ q.da.map (·.block) = some y := by
  simp only [KQ.rest, List.mem_cons, List.mem_append, Option.mem_toList] at h
  rcases h with h | h | h | (h | h) | h <;> simp [h]
theorem KAt.lt {w : World} {B kb n : Nat} {k : Kn} {q : KQ} (h : KAt w B kb n k q) : ∀ y ∈ q.all kb, y < w.heap.size := by
  intro y hy
  rcases List.mem_append.1 hy with hy | hy
  · rcases KQ.mem hy with rfl | rfl | rfl | h1 | h1 | h1
    · exact h.box.lt
    · exact h.ag.1.lt
    · exact h.ml.lt
    · exact (World.ownsRow.lt h.rl y (by rw [own_slice]; exact h1)).2
    · exact (World.ownsRow.lt h.rp y (by rw [own_slice]; exact h1)).2
    · exact (World.ownsRow.lt h.ag.2 y (by rw [own_slice]; exact h1)).2
  · exact h.led.lt y hy
theorem KAt.keep {w w' : World} {B kb n : Nat} {k : Kn} {q : KQ} {L : List Nat} (h : KAt w B kb n k q) (c : Chg L w w') (hn : ∀ y ∈ q.all kb, y ∉ L) : KAt w' B kb n k q := by
  have hr : ∀ y ∈ q.rest kb, y ∉ L := fun y hy => hn y (List.mem_append_left _ hy)
  refine ⟨h.box.keep c (hr _ (by simp [KQ.rest])), own_keep h.rl c (fun y hy => hr y ?_), own_keep h.rp c (fun y hy => hr y ?_), h.led.keep c (fun y hy => hn y (List.mem_append_right _ hy)), h.ag.keep c (hr _ (by simp [KQ.rest])) (fun y hy => hr y ?_), h.ml.keep c (hr _ (by simp [KQ.rest])), h.dj⟩
  all_goals
    rw [own_slice] at hy
    simp [KQ.rest, hy]
theorem KAt.fresh {w w' : World} {B kb n : Nat} {k : Kn} {q : KQ} (h : KAt w B kb n k q) (c : Chg [] w w') : KAt w' B kb n k q := h.keep c (by simp)
theorem KAt.withLed {w w' : World} {B kb n n' : Nat} {k : Kn} {q : KQ} (h : KAt w B kb n k q) (hn : n ≤ n') (c : Chg (q.lq.bs q.lb) w w') (led : Led) (lq : LedQ) (hl : LedAt w' B q.lb n' led lq) (hb : ∀ y ∈ lq.bs q.lb, y ∈ q.lq.bs q.lb ∨ w.heap.size ≤ y) :
    KAt w' B kb n' { k with led := led } { q with lq := lq } := by
  have hr : ∀ y ∈ q.rest kb, y ∉ q.lq.bs q.lb := fun y hy hm => h.dj y hm hy
  refine ⟨h.box.keep c (hr _ (by simp [KQ.rest])), own_keep h.rl c (fun y hy => hr y ?_), own_keep h.rp c (fun y hy => hr y ?_), hl, h.ag.keep c (hr _ (by simp [KQ.rest])) (fun y hy => hr y ?_), (h.ml.keep c (hr _ (by simp [KQ.rest]))).mono hn, fun y hy hm => ?_⟩
  rotate_left 3
  · rcases hb y hy with h1 | h1
    · exact h.dj y h1 hm
    · have := h.lt y (List.mem_append_left _ hm); omega
  all_goals
    rw [own_slice] at hy
    simp [KQ.rest, hy]
theorem blk_ne {w : World} {b b' : Nat} {c c' : Array Value} {T T' : TypeId} (h : Blk w b c T) (h' : Blk w b' c' T') (hT : T ≠ T') : b ≠ b' := by
  rintro rfl
  unfold Blk at h h'
  rw [h] at h'
  simp at h'
  exact hT h'.2
theorem KAt.withAg {w w' : World} {B kb n : Nat} {k : Kn} {q : KQ} (h : KAt w B kb n k q) (c : Chg (q.ab :: blk q.da) w w') (ds : List Du) (da : Option Addr) (dc : Nat) (ha : AgAt w' B q.ab (k.l.length : Int) da dc ds) (hb : ∀ y ∈ blk da, y ∈ blk q.da ∨ w.heap.size ≤ y) :
    KAt w' B kb n { k with due := ds } { q with da := da, dc := dc } := by
  have hd : ∀ y, y ∈ blk q.da → (Value.slice q.da k.due.length q.dc).ownBlock = some y := fun y hy => by rw [own_slice]; exact Option.mem_toList.1 hy
  have hm : ∀ y, y ∈ q.ab :: blk q.da → y ∈ q.rest kb := fun y hy => by
    rcases List.mem_cons.1 hy with rfl | hy
    · simp [KQ.rest]
    · simp only [KQ.rest, List.mem_cons, List.mem_append]; exact .inr (.inr (.inr (.inr hy)))
  refine ⟨h.box.keep c ?_, own_keep h.rl c ?_, own_keep h.rp c ?_, h.led.keep c (fun y hy hy' => h.dj y hy (hm y hy')), ha, h.ml.keep c ?_, fun y hy hy' => ?_⟩
  · intro hy
    rcases List.mem_cons.1 hy with hy | hy
    · exact blk_ne h.box h.ag.1 (by decide) hy
    · exact own_type h.ag.2 h.box (by decide) _ (hd _ hy) rfl
  · intro y hy0 hy
    rcases List.mem_cons.1 hy with hy | hy
    · exact own_type h.rl h.ag.1 (by decide) _ hy0 hy
    · exact own_type2 h.rl h.ag.2 (by decide) _ hy0 (hd _ hy)
  · intro y hy0 hy
    rcases List.mem_cons.1 hy with hy | hy
    · exact own_type h.rp h.ag.1 (by decide) _ hy0 hy
    · exact own_type2 h.rp h.ag.2 (by decide) _ hy0 (hd _ hy)
  · intro hy
    rcases List.mem_cons.1 hy with hy | hy
    · exact h.ml.ne_blk h.ag.1 hy
    · exact h.ml.ne_row h.ag.2 _ (hd _ hy) rfl
  · rcases KQ.mem hy' with h1 | h1 | h1 | h1 | h1 | h1
    · exact h.dj y hy (by simp [KQ.rest, h1])
    · exact h.dj y hy (by simp only at h1; simp [KQ.rest, h1])
    · exact h.dj y hy (by simp only at h1; simp [KQ.rest, h1])
    · exact h.dj y hy (by simp only at h1; simp [KQ.rest, h1])
    · exact h.dj y hy (by simp only at h1; simp [KQ.rest, h1])
    · rcases hb y (Option.mem_toList.2 h1) with h2 | h2
      · exact h.dj y hy (hm y (List.mem_cons_of_mem _ h2))
      · have := h.led.lt y hy; omega
theorem KAt.withLast {w w' : World} {B kb n n' : Nat} {k : Kn} {q : KQ} (h : KAt w B kb n k q) (hn : n ≤ n') (c : Chg [q.mb] w w') (f : Int → Option Int) (hf : MapI w' q.mb n' f) : KAt w' B kb n' { k with last := f } q := by
  have hs : ∀ {y}, y ∈ [q.mb] → y = q.mb := fun h => List.mem_singleton.1 h
  exact ⟨h.box.keep c (fun hm => h.ml.ne_blk h.box (hs hm).symm), own_keep h.rl c (fun y hy hm => h.ml.ne_row h.rl y hy (hs hm)), own_keep h.rp c (fun y hy hm => h.ml.ne_row h.rp y hy (hs hm)), (h.led.keep c (fun y hy hm => h.dj y hy (by rw [hs hm]; simp [KQ.rest]))).mono hn, h.ag.keep c (fun hm => h.ml.ne_blk h.ag.1 (hs hm).symm) (fun y hy hm => h.ml.ne_row h.ag.2 y hy (hs hm)), hf, h.dj⟩
theorem KAt.withBox {w w' : World} {B kb n : Nat} {k : Kn} {q : KQ} (h : KAt w B kb n k q) (c : Chg [kb] w w') (now : Int) (opn : Bool) (hb : Blk w' kb #[.slice q.la k.l.length q.lc, .slice q.pa k.prio.length q.pc, .pointer (some ⟨q.lb, 0, none⟩), .pointer (some ⟨q.ab, 0, none⟩), .map (some q.mb), .int .i64 now, .bool opn] 66) : KAt w' B kb n { k with now := now, opn := opn } q := by
  have hs : ∀ {y}, y ∈ [kb] → y = kb := fun h => List.mem_singleton.1 h
  exact ⟨hb, own_keep h.rl c (fun y hy hm => own_type h.rl h.box (by decide) y hy (hs hm)), own_keep h.rp c (fun y hy hm => own_type h.rp h.box (by decide) y hy (hs hm)), h.led.keep c (fun y hy hm => h.dj y hy (by rw [hs hm]; simp [KQ.rest])), h.ag.keep c (fun hm => blk_ne h.ag.1 h.box (by decide) (hs hm)) (fun y hy hm => own_type h.ag.2 h.box (by decide) y hy (hs hm)), h.ml.keep c (fun hm => h.ml.ne_blk h.box (hs hm)), h.dj⟩
structure KOK (k : Kn) (n : Nat) : Prop where
  led : LedOK k.led n
  ll : k.led.l = k.l
  pl : k.prio.length = k.l.length
  now : 0 ≤ k.now ∧ k.now ≤ 2000
  due : ∀ d ∈ k.due, (0 ≤ d.at_ ∧ d.at_ ≤ 1060000) ∧ 0 ≤ d.task ∧ d.task < k.l.length
  dl : k.due.length ≤ k.l.length
  last : ∀ i v, k.last i = some v → 0 ≤ v ∧ v ≤ 4096
  st : ∀ j ∈ k.led.all, j.steps ≤ k.now
structure Ev where
  (t kind task a b : Int)
def Ev.cells (e : Ev) : List Value := [.int .i64 e.t, .int .i64 e.kind, .int .i64 e.task, .int .i64 e.a, .int .i64 e.b]
def Ev.val (e : Ev) : Value := .agg #[.int .i64 e.t, .int .i64 e.kind, .int .i64 e.task, .int .i64 e.a, .int .i64 e.b]
def Kn.ev (k : Kn) (kind i a b : Int) : Ev := ⟨k.now, kind, i, a, b⟩
theorem szEv : (Tryd.prog.info? 41).map (·.size) = some 5 := by kernel_rfl
theorem results_row_one {P : Program} {fn : Func} {p : Tmp} {ty : TypeId} (h : fn.results = #[.cell p ty]) (tmps : Array Value) (w : World) (g : Nat) (t : TypeId) (cs : Array Value) (fr : Nat × Nat) (d : TypeDesc)
    (hp : tmps.getD p undef = .pointer (some ⟨g, 0, none⟩)) (hg : w.heap[g]? = some (.cells cs t fr))
    (hu : P.underlying ty = some d) (hd : (match d with | .struct _ | .array _ _ => true | _ => false) = true) (hi : (P.info? ty).map (·.size) = some cs.size) :
    (results fn tmps).run P w = .ok (.agg cs) w := by
  have hp' : tmps[p]?.getD undef = .pointer (some ⟨g, 0, none⟩) := by simpa using hp
  simp [results, h, hp', asAddr, run_loadVar_row w g t ty cs fr d hg hu hd hi]
theorem event_any (kb : Nat) (now kind i a b : Int) (w : World) (h : w.cell? ⟨kb, 5, none⟩ = some (.int .i64 now)) :
    Calls Tryd.prog 25 #[.pointer (some ⟨kb, 0, none⟩), .int .i64 kind, .int .i64 i, .int .i64 a, .int .i64 b] w fun e w' => e = .returned (.agg #[.int .i64 now, .int .i64 kind, .int .i64 i, .int .i64 a, .int .i64 b]) ∧ Chg [] w w' := by
  have HW1 : Hid (Chg [] w (w.alloc (.cells #[.int .i64 0, .int .i64 0, .int .i64 0, .int .i64 0, .int .i64 0] 41))) := Lib.hid ((Chg.refl [] w).alloc _)
  have HBN : Hid (Blk (w.alloc (.cells #[.int .i64 0, .int .i64 0, .int .i64 0, .int .i64 0, .int .i64 0] 41)) w.heap.size #[.int .i64 0, .int .i64 0, .int .i64 0, .int .i64 0, .int .i64 0] 41) := Lib.hid (Blk.new w _ _)
  have b5 := HW1.out.keep h (by simp)
  clear h
  go_enter Tryd.func25, Tryd.ntmps25
  go_wp2_with (refine Go.Proofs.YtfkokbeloenfdaaDoor.blk.wpList_store_blk rfl 41 (.tmp 10) (.tmp 19) rfl w.heap.size #[.int .i64 now, .int .i64 kind, .int .i64 i, .int .i64 a, .int .i64 b] rfl rfl HBN.out szEv rfl (by simp [Value.oneCell']) ?_; intro w9 hb9 hc9; have HB9 := Lib.hid hb9; have HC9 := Lib.hid hc9; clear hb9 hc9)
  refine bodyPost_ret (results_row_one rfl _ _ w.heap.size 41 _ (0, 0) _ rfl HB9.out Tryd.underlying41 rfl szEv) rfl ?_
  exact ⟨rfl, HW1.out.into HC9.out (by simp)⟩
end Go.Proofs.YtfkokbeloenfdaaDoor.krn
