/- What is kept from operation to operation, as long as nobody else comes in between. -/
import Derived.Test.YtjnmlfpljeddmaaReady
import Derived.Test.YtjnmlfpljeddmaaCoreB
import Derived.Test.YtjnmlfpljeddmaaCaseA
namespace Go.Proofs.Ytjnmlfpljeddmaa.core
open Go Go.RowKit Go.Proofs.Ytjnmlfpljeddmaa.kit Go.Proofs.Ytjnmlfpljeddmaa.mem
set_option linter.unusedVariables false
set_option linter.unusedSimpArgs false
set_option maxRecDepth 20000

theorem gets_same (ws : List Int) (i : Nat) (v : Int) (h : i < ws.length) : (ws.set i v).getD i 0 = v := by simp [List.getD, h]
theorem gets_ne (ws : List Int) (i j : Nat) (v : Int) (h : i ≠ j) : (ws.set i v).getD j 0 = ws.getD j 0 := by simp [List.getD, List.getElem?_set, h]
theorem take_all {l : List Int} {n : Nat} (h : l.length ≤ n) : l.take n = l := List.take_of_length_le h
theorem take_next {l : List Int} {n : Nat} (h : n < l.length) : l.take n ++ [l.getD n 0] = l.take (n + 1) := by
  rw [List.take_succ_eq_append_getElem h]; simp [List.getD, h]
/-- the words ahead of all operations -/
theorem ready_get (N : Nat) (l : List Int) (hl : l.length = N) (j : Nat) (hj : j < N) : (readyL N l).getD (1 + j) 0 = l.getD j 0 := by
  unfold readyL fillL
  have h1 : (List.take 1 (List.replicate (N + 2) (0 : Int))).length = 1 := by rw [List.length_take, List.length_replicate]; omega
  simp only [List.getD]
  rw [List.getElem?_append_right (by omega), h1, List.getElem?_append_left (by omega), show 1 + j - 1 = j by omega]
theorem ready_len (N : Nat) (l : List Int) (hl : l.length = N) : (readyL N l).length = N + 2 := by
  unfold readyL; rw [fillL_length _ _ _ (by rw [List.length_replicate]; omega), List.length_replicate]

/-- an operation that was begun beside a memory that was there -/
theorem Pair.late {T : TypeId} {bx mb : Nat} {sv v : Value} {W W' : World} {x : Core} {rec ws : List Int} {n : Int} (hb : Blk W' bx (x.cells v) T) (ho : OwnW W' W.heap.size v rec) (hv : ∀ y, v.ownBlock = some y → y ≠ bx) (hx : W.heap.size ≤ bx)
    (hw : ∀ z ∈ rec, (Lit.int .u32 z).wf = true) (hl : rec.length ≤ 1000) (hc : Chg [] W W') (hm : MemAt W mb sv ws n) : Pair T bx mb sv W' x v rec ws n := by
  have h1 := hm.box.lt
  have h2 : ∀ y, sv.ownBlock = some y → y < W.heap.size := fun y hy => own_lt hm.row hy
  have h3 : ∀ y, v.ownBlock = some y → W.heap.size ≤ y := fun y hy => by
    rcases ho.2 with ⟨rfl, _⟩ | ⟨g, _, _, rfl, hg, _⟩
    · cases hy
    · simp [Value.ownBlock] at hy; omega
  exact ⟨hb, own_base ho (Nat.zero_le _), hw, hl, hm.fresh hc, by omega, fun y hy => by have := h2 y hy; omega, fun y hy => ⟨hv y hy, by have := h3 y hy; omega, fun hh => by have := h2 y hh; have := h3 y hy; omega⟩⟩
/-- what an operation changes is new, if it, its record and its memory are -/
theorem St.into {T : TypeId} {bx mb : Nat} {sv r0 : Value} {W0 wr B : World} {x : Core} {rec ws : List Int} {n : Int} (h : St T bx mb sv W0 r0 wr x rec ws n) (hc : Chg [] B W0) (h1 : B.heap.size ≤ bx) (h2 : B.heap.size ≤ mb) (h3 : ∀ y, sv.ownBlock = some y → B.heap.size ≤ y) (h4 : ∀ y, r0.ownBlock = some y → B.heap.size ≤ y) : Chg [] B wr := by
  obtain ⟨v, hp, he⟩ := h
  refine hc.into he.chg fun y hy => ?_
  simp only [List.mem_cons, List.mem_append, Option.mem_toList, Option.mem_def] at hy
  right
  rcases hy with rfl | rfl | hy | hy
  · exact h1
  · exact h2
  · exact h3 y hy
  · exact h4 y hy

/-- a kind that keeps: Ok: the words (an object's at 1) tell this record; WI, RI: a write, a read, so far -/
structure Keep (K : Kind) where
  Ok : Int → Int → Nat → List Int → List Int → Prop
  WI : Int → Int → Nat → Q → List Int → Prop
  RI : Int → Int → Nat → Q → List Int → Prop
  wstep : ∀ {w s : Int} {rl : Nat} {x : Core} {rec ws new : List Int} (mv : Value), K.Shape x rec → x.over = false → WI w s rl (x, rec, ws) new → WI w s rl (K.step x mv rec ws) new
  rstep : ∀ {w s : Int} {rl : Nat} {x : Core} {rec ws last : List Int} (mv : Value), K.Shape x rec → x.over = false → RI w s rl (x, rec, ws) last → RI w s rl (K.step x mv rec ws) last
  wend : ∀ {w s : Int} {rl : Nat} {x : Core} {rec ws new : List Int}, WI w s rl (x, rec, ws) new → x.over = true → x.code = 0 ∧ Ok w s rl ws new
  rend : ∀ {w s : Int} {rl : Nat} {x : Core} {rec ws last : List Int}, RI w s rl (x, rec, ws) last → x.over = true → x.code = 0 ∧ rec = last ∧ Ok w s rl ws last

/-- a list of records -/
def ReadsR (w : World) (a : Option Addr) (len : Nat) (rs : List (Option Addr × Nat × Nat × List Int)) : Prop :=
  rs.length = len ∧ (len = 0 ∨ ∃ b off, a = some ⟨b, off, none⟩ ∧ ∀ (i : Nat) r, rs[i]? = some r → w.cell? ⟨b, off + i, none⟩ = some (.slice r.1 r.2.1 r.2.2.1)) ∧ ∀ r ∈ rs, ReadsW w (.slice r.1 r.2.1 r.2.2.1) r.2.2.2
theorem cellsRec : Try.prog.cellsOf 23 = 1 := by kernel_rfl
theorem recs_open {w : World} {n : Nat} {a : Option Addr} {len cap : Nat} (h : kit.Opens Try.prog w (n + 3) 50 [.slice a len cap]) : ∃ rs, ReadsR w a len rs := by
  obtain ⟨xs, hr, hx⟩ := h.slice Try.underlying50 cellsRec (by decide)
  obtain ⟨rs, h1, h2, h3⟩ := kit.rows_of (R := Option Addr × Nat × Nat × List Int) (fun r => [.slice r.1 r.2.1 r.2.2.1]) (fun r => ReadsW w (.slice r.1 r.2.1 r.2.2.1) r.2.2.2) 1 (fun _ => rfl) len xs hr.1 fun i hi => by
    have h0 := hx i hi
    obtain ⟨a', l', c', he⟩ := h0.isSlice Try.underlying23 (by rw [obj.cellsU32]; decide)
    rw [he] at h0
    obtain ⟨zs, _, hr2, hw2⟩ := kit.Opens.ints (n := n) h0 Try.underlying23 Try.underlying22 obj.cellsU32
    exact ⟨(a', l', c', zs), he, by
      obtain ⟨_, _, hh, _⟩ := reads_slice hr2
      exact ⟨hr2, hw2⟩⟩
  refine ⟨rs, h1, ?_, h3⟩
  rcases hr with ⟨_, _, ⟨h0, _⟩ | ⟨_, b, off, cc, he, _, _, hcell⟩⟩
  · exact .inl h0
  · right
    simp at he
    refine ⟨b, off, he.1, fun i r hi => hcell i _ ?_⟩
    rw [h2, kit.flatMap_one (fun r : Option Addr × Nat × Nat × List Int => Value.slice r.1 r.2.1 r.2.2.1), List.getElem?_map, hi]
    rfl
end Go.Proofs.Ytjnmlfpljeddmaa.core
