/- The kernel: the ledger's state; job.time, has, Active, job, Job. -/
import Derived.BigQuiet
import Derived.Test.YtfkokbeloenfdaaDoorKrnK
import Derived.Test.YtfkokbeloenfdaaDoorWordWalks
namespace Go.Proofs.YtfkokbeloenfdaaDoor.krn
open Go Go.RowKit Go.Proofs.YtfkokbeloenfdaaDoor.kit Go.Shelf
set_option linter.unusedVariables false
set_option linter.unusedSimpArgs false
set_option maxRecDepth 20000
theorem row_cell {α : Type} {enc : α → List Value} {sz : Nat} (hsz : ∀ x, (enc x).length = sz) {w : World} {B g c : Nat} {T : TypeId} {l : List α} (h : w.ownsRow B T sz (.slice (some ⟨g, 0, none⟩) l.length c) l.length (l.flatMap enc)) (j f : Nat) (hf : f < sz) (x : α) (hj : l[j]? = some x) (v : Value) (hv : (enc x)[f]? = some v) :
    w.cell? ⟨g, j * sz + f, none⟩ = some v ∧ w.frozen? ⟨g, j * sz + f, none⟩ = false := by
  have hjl : j < l.length := by
    rcases Nat.lt_or_ge j l.length with h1 | h1
    · exact h1
    · rw [List.getElem?_eq_none h1] at hj; cases hj
  have hb : j * sz + f < l.length * sz := by
    have h2 := Nat.mul_le_mul_right sz (Nat.succ_le_of_lt hjl)
    rw [Nat.succ_mul] at h2
    omega
  have e0 := World.ownsRow.cellAt h (j * sz + f) hb
  have h0 := flatMap_get enc sz hsz l j f hf _ hj
  rw [h0, hv] at e0
  exact ⟨e0, World.ownsRow.frozenAt h _⟩
theorem flatMap_setf {α : Type} (enc : α → List Value) (sz : Nat) (hsz : ∀ x, (enc x).length = sz) (f : Nat) (hf : f < sz) (v : Value) : ∀ (l : List α) (j : Nat) (x y : α), l[j]? = some x → enc y = (enc x).set f v → (l.flatMap enc).set (j * sz + f) v = (l.set j y).flatMap enc
  | [], j, x, y, h, _ => by cases h
  | a :: l, 0, x, y, h, he => by
    cases h
    rw [List.set_cons_zero, List.flatMap_cons, List.flatMap_cons, he, Nat.zero_mul, Nat.zero_add, List.set_append_left _ _ (by rw [hsz]; exact hf)]
  | a :: l, j + 1, x, y, h, he => by
    rw [List.set_cons_succ, List.flatMap_cons, List.flatMap_cons, ← flatMap_setf enc sz hsz f hf v l j x y (by simpa using h) he, Nat.succ_mul,
      List.set_append_right _ _ (by rw [hsz]; omega), hsz]
    congr 2; omega
theorem row_put {α : Type} {enc : α → List Value} {sz : Nat} (hsz : ∀ x, (enc x).length = sz) {w : World} {B g c : Nat} {T : TypeId} {l : List α} (h : w.ownsRow B T sz (.slice (some ⟨g, 0, none⟩) l.length c) l.length (l.flatMap enc)) (j f : Nat) (hf : f < sz) (x y : α) (hj : l[j]? = some x) (v : Value) (he : enc y = (enc x).set f v) :
    (w.setCell ⟨g, j * sz + f, none⟩ v).ownsRow B T sz (.slice (some ⟨g, 0, none⟩) (l.set j y).length c) (l.set j y).length ((l.set j y).flatMap enc) := by
  have h1 := (World.ownsRow.stored h (j * sz + f) v).1
  rw [flatMap_setf enc sz hsz f hf v l j x y hj he] at h1
  rw [List.length_set]
  exact h1
structure Jb where
  (tk no rel dl st en steps : Int) (missed : Bool)
def Jb.cells (j : Jb) : List Value := [.int .i64 j.tk, .int .i64 j.no, .int .i64 j.rel, .int .i64 j.dl, .int .i64 j.st, .int .i64 j.en, .int .i64 j.steps, .bool j.missed]
def Jb.zero : Jb := ⟨0, 0, 0, 0, 0, 0, 0, false⟩
structure Tk where
  (kind prio period offset deadline own : Int) (code : Value)
def Tk.cells (t : Tk) : List Value := [.int .i64 t.kind, .int .i64 t.prio, .int .i64 t.period, .int .i64 t.offset, .int .i64 t.deadline, .int .i64 t.own, t.code]
structure Led where
  (l : List Tk) (all : List Jb) (now counts : Int → Option Int) (act : Nat) (overs : List Du)
structure LedQ where
  (la : Option Addr) (lc : Nat) (aa : Option Addr) (ac : Nat) (nb cb : Nat) (oa : Option Addr) (oc : Nat)
def LedQ.lv (q : LedQ) (s : Led) : Value := .slice q.la s.l.length q.lc
def LedQ.av (q : LedQ) (s : Led) : Value := .slice q.aa s.all.length q.ac
def LedQ.ov (q : LedQ) (s : Led) : Value := .slice q.oa s.overs.length q.oc
structure LedAt (w : World) (B db n : Nat) (s : Led) (q : LedQ) : Prop where
  box : Blk w db #[.slice q.la s.l.length q.lc, .slice q.aa s.all.length q.ac, .map (some q.nb), .map (some q.cb), .int .u64 (s.act : Int), .slice q.oa s.overs.length q.oc] 90
  rl : w.ownsRow B 33 7 (.slice q.la s.l.length q.lc) s.l.length (s.l.flatMap Tk.cells)
  ra : w.ownsRow B 60 8 (.slice q.aa s.all.length q.ac) s.all.length (s.all.flatMap Jb.cells)
  mn : MapI w q.nb n s.now
  mc : MapI w q.cb n s.counts
  ro : OwnD w B (.slice q.oa s.overs.length q.oc) s.overs
  nc : q.nb ≠ q.cb
def LedQ.bs (q : LedQ) (db : Nat) : List Nat := db :: q.nb :: q.cb :: ((q.la.map (·.block)).toList ++ (q.aa.map (·.block)).toList ++ (q.oa.map (·.block)).toList)
theorem own_slice (a : Option Addr) (n c : Nat) : (Value.slice a n c).ownBlock = a.map (·.block) := by
  cases a <;> rfl
theorem LedQ.mem {q : LedQ} {db y : Nat} (h : y ∈ q.bs db) : y = db ∨ y = q.nb ∨ y = q.cb ∨ q.la.map (·.block) = some y ∨ q.aa.map (·.block) = some y ∨ q.oa.map (·.block) = some y := by
  simp only [LedQ.bs, List.mem_cons, List.mem_append, Option.mem_toList] at h
  rcases h with h | h | h | (h | h) | h <;> simp [h]
theorem LedAt.keep {w w' : World} {B db n : Nat} {s : Led} {q : LedQ} {L : List Nat} (h : LedAt w B db n s q) (k : Chg L w w') (hn : ∀ y ∈ q.bs db, y ∉ L) : LedAt w' B db n s q := by
  have hb : ∀ y, y ∈ q.bs db → y ∉ L := hn
  refine ⟨h.box.keep k (hb _ (by simp [LedQ.bs])), own_keep h.rl k (fun y hy => hb y ?_), own_keep h.ra k (fun y hy => hb y ?_), h.mn.keep k (hb _ (by simp [LedQ.bs])), h.mc.keep k (hb _ (by simp [LedQ.bs])), own_keep h.ro k (fun y hy => hb y ?_), h.nc⟩
  all_goals
    rw [own_slice] at hy
    simp [LedQ.bs, hy]
theorem LedAt.fresh {w w' : World} {B db n : Nat} {s : Led} {q : LedQ} (h : LedAt w B db n s q) (k : Chg [] w w') : LedAt w' B db n s q := h.keep k (by simp)
theorem LedAt.lt {w : World} {B db n : Nat} {s : Led} {q : LedQ} (h : LedAt w B db n s q) : ∀ y ∈ q.bs db, y < w.heap.size := by
  intro y hy
  rcases LedQ.mem hy with rfl | rfl | rfl | h1 | h1 | h1
  · exact h.box.lt
  · exact h.mn.lt
  · exact h.mc.lt
  · exact (World.ownsRow.lt h.rl y (by rw [own_slice]; exact h1)).2
  · exact (World.ownsRow.lt h.ra y (by rw [own_slice]; exact h1)).2
  · exact (World.ownsRow.lt h.ro y (by rw [own_slice]; exact h1)).2
theorem LedAt.mono {w : World} {B db n n' : Nat} {s : Led} {q : LedQ} (h : LedAt w B db n s q) (hn : n ≤ n') : LedAt w B db n' s q := ⟨h.box, h.rl, h.ra, h.mn.mono hn, h.mc.mono hn, h.ro, h.nc⟩
structure LedOK (s : Led) (n : Nat) : Prop where
  act : s.act < 256
  alen : s.all.length ≤ n
  olen : s.overs.length ≤ n
  llen : s.l.length ≤ 8
  cnt : ∀ i v, s.counts i = some v → 0 ≤ v ∧ v ≤ n
  now : ∀ i : Nat, s.act.testBit i = true → i < s.l.length ∧ ∃ j : Nat, s.now (i : Int) = some (j : Int) ∧ j < s.all.length
  fit : ∀ j ∈ s.all, (0 ≤ j.rel ∧ j.rel ≤ 4096) ∧ (0 ≤ j.dl ∧ j.dl ≤ 2000000) ∧ (0 ≤ j.steps ∧ j.steps ≤ 4096) ∧ (0 ≤ j.no ∧ j.no ≤ n)
  fitl : ∀ t ∈ s.l, (1 ≤ t.period ∧ t.period ≤ 1048576) ∧ (0 ≤ t.offset ∧ t.offset ≤ 1048576) ∧ (1 ≤ t.deadline ∧ t.deadline ≤ 1048576)
theorem time_any (t : Int) (h0 : 0 ≤ t) (h1 : t ≤ 4096) (w : World) : Calls Tryd.prog 40 #[.int .i64 t] w fun e w' => e = .returned (.int .i64 t) ∧ w = w' := by
  have hi : Go.Proofs.YtfkokbeloenfdaaDoor.word.clamp t 0 1099511627776 = t := by unfold Go.Proofs.YtfkokbeloenfdaaDoor.word.clamp; omega
  have HCL := Lib.hid (fun V => Go.Proofs.YtfkokbeloenfdaaDoor.word.Clamp_any t 0 1099511627776 V)
  rw [hi] at HCL
  clear h0 h1 hi
  go_enter Tryd.func40, Tryd.ntmps40
  go_wp2_with (go_at_call 50; refine (HCL.out _).mono ?_; rintro e w' ⟨rfl, rfl⟩)
  go_ret
  exact ⟨rfl, rfl⟩
theorem has_any (B db n : Nat) (s : Led) (q : LedQ) (i : Nat) (w : World) (h : LedAt w B db n s q) (hk : LedOK s n) (hi : i ≤ 20) :
    Calls Tryd.prog 31 #[.pointer (some ⟨db, 0, none⟩), .int .i64 (i : Int)] w fun e w' => e = .returned (.bool (s.act.testBit i)) ∧ w = w' := by
  have b4 : w.cell? ⟨db, 4, none⟩ = some (.int .u64 (s.act : Int)) := h.box.cell rfl
  have HH := Lib.hid (fun V => Has_any s.act i (by have := hk.act; omega) hi V)
  obtain ⟨m, hm⟩ : ∃ m, s.act = m := ⟨_, rfl⟩
  rw [hm] at b4 HH ⊢
  clear h hk hi hm
  go_enter Tryd.func31, Tryd.ntmps31
  go_wp2_with (go_at_call 45; refine (HH.out _).mono ?_; rintro e w' ⟨rfl, rfl⟩)
  all_goals go_ret
  all_goals exact ⟨by simp, rfl⟩
theorem Active_any (B db n : Nat) (s : Led) (q : LedQ) (w : World) (h : LedAt w B db n s q) :
    Calls Tryd.prog 30 #[.pointer (some ⟨db, 0, none⟩)] w fun e w' => e = .returned (.int .u64 (s.act : Int)) ∧ w = w' := by
  have b4 : w.cell? ⟨db, 4, none⟩ = some (.int .u64 (s.act : Int)) := h.box.cell rfl
  obtain ⟨m, hm⟩ : ∃ m, s.act = m := ⟨_, rfl⟩
  rw [hm] at b4 ⊢
  clear h hm
  go_enter Tryd.func30, Tryd.ntmps30
  go_wp2
  go_ret
  exact ⟨rfl, rfl⟩
theorem szJob : (Tryd.prog.info? 60).map (·.size) = some 8 := by kernel_rfl
theorem szTask : (Tryd.prog.info? 33).map (·.size) = some 7 := by kernel_rfl
theorem job_any (B db n : Nat) (s : Led) (q : LedQ) (i j : Nat) (w : World) (h : LedAt w B db n s q) (hi : i ≤ 20) (hj : s.now (i : Int) = some (j : Int)) (hjl : j < s.all.length) :
    Calls Tryd.prog 32 #[.pointer (some ⟨db, 0, none⟩), .int .i64 (i : Int)] w fun e w' => ∃ g c, e = .returned (.pointer (some ⟨g, j * 8, none⟩)) ∧ q.aa = some ⟨g, 0, none⟩ ∧ q.ac = c ∧ Chg [] w w' := by
  obtain ⟨g, c, hv, hB, hg⟩ := own_addr h.ra (by omega)
  have b1 : w.cell? ⟨db, 1, none⟩ = some (.slice q.aa s.all.length q.ac) := h.box.cell rfl
  have b2 : w.cell? ⟨db, 2, none⟩ = some (.map (some q.nb)) := h.box.cell rfl
  have hlk : ∀ k, (Instr.lookup 64 (.map (some q.nb)) (.int .i64 (i : Int)) false).run Tryd.prog (w.drewN k) = .ok (.int .i64 (j : Int)) (w.drewN k) := fun k => by
    have := (h.mn.keep ((Chg.refl [] w).drewN k) (by simp)).look (i := (i : Int)) (i64_of (by omega) (by omega))
    rw [hj] at this
    exact this
  rw [hv] at b1
  simp only [Value.slice.injEq] at hv
  obtain ⟨ha, -, hc⟩ := hv
  have HA : Hid (q.aa = some ⟨g, 0, none⟩ ∧ q.ac = c) := Lib.hid ⟨ha, hc⟩
  have hix := index_at (size := 8) Tryd.underlying46 szJob g s.all.length c j hjl
  obtain ⟨nb, hnb⟩ : ∃ nb, q.nb = nb := ⟨_, rfl⟩
  obtain ⟨na, hna⟩ : ∃ na, s.all.length = na := ⟨_, rfl⟩
  rw [hnb] at b2 hlk
  rw [hna] at b1 hix
  have hmx : Tryd.prog.follows .mixedOrders = true := by kernel_rfl
  clear h hi hj hjl ha hc hB hg hnb hna
  go_enter Tryd.func32, Tryd.ntmps32
  go_wp2
  go_quiet (fail)
  go_wp2
  go_ret
  exact ⟨g, c, rfl, HA.out.1, HA.out.2, (Chg.refl [] w).drewN nq⟩
end Go.Proofs.YtfkokbeloenfdaaDoor.krn
