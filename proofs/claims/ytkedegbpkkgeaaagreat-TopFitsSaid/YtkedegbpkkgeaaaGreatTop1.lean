import Derived.WalkKit
import Derived.Laws.AppendOwnNone
import Derived.Laws.CopyOwn
import Derived.Deep.QuietTactic
import Derived.Deep.RegionLaw
import Derived.BigQuiet
import Derived.Lib.Hide
import Derived.StillTailTactics
import Derived.Laws.Rows
/- Words and laws on memory for the walks, over any program (no project text): which blocks a call may turn; what a slice reads as; append, conversion and copy as laws for the walk. -/
namespace Go.Proofs.YtkedegbpkkgeaaaGreat.kit
open Go Go.RowKit
set_option linter.unusedVariables false
set_option linter.unusedSimpArgs false

theorem ret_int {k : IntKind} {a b : Int} (h : a = b) : Ending.returned (.int k a) = .returned (.int k b) := by rw [h]
theorem ret_bool {a b : Bool} (h : a = b) : Ending.returned (.bool a) = .returned (.bool b) := by rw [h]

/-! ### 'w'' is 'w', but for draws -/
def Quiet (w w' : World) : Prop := ∃ n, w' = w.drewN n
theorem Quiet.refl (w : World) : Quiet w w := ⟨0, rfl⟩
theorem Quiet.drewN {w v : World} (h : Quiet w v) (n : Nat) : Quiet w (v.drewN n) := by
  obtain ⟨m, rfl⟩ := h; exact ⟨m + n, by rw [World.drewN_drewN]⟩
theorem Quiet.trans {a b c : World} (h : Quiet a b) (k : Quiet b c) : Quiet a c := by
  obtain ⟨m, rfl⟩ := k; exact h.drewN m
/-! ### Of the blocks that were there only those of the list L may have turned -/
structure Chg (L : List Nat) (w w' : World) : Prop where
  os : w'.os = w.os
  tape : w'.tape = w.tape
  output : w'.output = w.output
  size : w.heap.size ≤ w'.heap.size
  block : ∀ k, k < w.heap.size → k ∉ L → w'.heap[k]? = w.heap[k]?

section
variable {L L' : List Nat} {a b c w : World}
theorem Chg.refl (L : List Nat) (w : World) : Chg L w w := ⟨rfl, rfl, rfl, Nat.le_refl _, fun _ _ _ => rfl⟩
theorem Chg.into (h : Chg L' a b) (k : Chg L b c) (hL : ∀ x ∈ L, x ∈ L' ∨ a.heap.size ≤ x) : Chg L' a c :=
  ⟨k.os.trans h.os, k.tape.trans h.tape, k.output.trans h.output, Nat.le_trans h.size k.size, fun i hi hn =>
    (k.block i (Nat.lt_of_lt_of_le hi h.size) (fun hm => by rcases hL i hm with h1 | h1; exact hn h1; omega)).trans (h.block i hi hn)⟩
theorem Chg.trans (h : Chg L a b) (k : Chg L b c) : Chg L a c := h.into k fun _ hx => .inl hx
theorem Chg.fresh (h : Chg L a b) (k : Chg [] b c) : Chg L a c := h.into k fun _ hx => by cases hx
theorem Chg.mono (h : Chg L a b) (hL : ∀ x ∈ L, x ∈ L') : Chg L' a b := (Chg.refl L' a).into h fun x hx => .inl (hL x hx)
theorem Chg.drewN (h : Chg L a b) (n : Nat) : Chg L a (b.drewN n) := ⟨h.os, h.tape, h.output, h.size, h.block⟩
theorem Chg.drew (h : Chg L a b) : Chg L a b.drew := ⟨h.os, h.tape, h.output, h.size, h.block⟩
theorem Chg.alloc (h : Chg L a b) (o : Obj) : Chg L a (b.alloc o) :=
  h.into (L := []) ⟨rfl, rfl, rfl, by simp, fun k hk _ => Below.heap_alloc _ _ _ hk⟩ fun _ hx => by cases hx
theorem Chg.setCell (h : Chg L a b) {p : Addr} (hp : p.block ∈ L ∨ a.heap.size ≤ p.block) (u : Value) : Chg L a (b.setCell p u) :=
  h.into (L := [p.block]) ⟨rfl, rfl, rfl, by simp [World.setCell], fun k hk hn => Below.heap_setCell _ _ _ _ (fun e => hn (by simp [e]))⟩ fun x hx => by
    simp only [List.mem_singleton] at hx; subst hx; exact hp
theorem Chg.grown (h : Chg L a b) {row : Option Nat} (hg : b.grownBy c row) (hr : ∀ k, row = some k → k ∈ L ∨ a.heap.size ≤ k) : Chg L a c := by
  refine h.into (L := row.toList) ⟨hg.os, hg.tape, hg.output, hg.size, fun k hk hn => hg.block k hk (fun e => hn (by simp [← e]))⟩ fun x hx => hr x ?_
  simpa using hx
theorem Chg.of_below (h : Below a.heap.size a b) : Chg [] a b := ⟨h.os, h.tape, h.output, h.size, fun k hk _ => h.block k hk⟩
theorem Chg.below (h : Chg [] a b) : Below a.heap.size a b := ⟨h.os, h.tape, h.output, h.size, fun k hk => h.block k hk (by simp)⟩
theorem Chg.heap (h : Chg L a b) {k : Nat} {o : Obj} (hb : a.heap[k]? = some o) (hn : k ∉ L) : b.heap[k]? = some o :=
  (h.block k (lt_of_block hb) hn).trans hb
theorem Chg.keep (h : Chg L a b) {p : Addr} {v : Value} (hc : a.cell? p = some v) (hn : p.block ∉ L) : b.cell? p = some v :=
  (World.cell?_of_block (h.block p.block (World.block_lt_of_cell? a p hc) hn)).trans hc
theorem Chg.frozen (h : Chg L a b) {p : Addr} (hp : p.block < a.heap.size) (hn : p.block ∉ L) : b.frozen? p = a.frozen? p := World.frozen?_of_block (h.block p.block hp hn)
end

/-! ### A block of cells, known whole -/
def Blk (w : World) (b : Nat) (c : Array Value) (T : TypeId) : Prop := w.heap[b]? = some (.cells c T (0, 0))
section
variable {w w' : World} {b b' : Nat} {c : Array Value} {T : TypeId} {L : List Nat}
theorem Blk.lt (h : Blk w b c T) : b < w.heap.size := lt_of_block h
theorem Blk.cell (h : Blk w b c T) {o : Nat} {v : Value} (hv : c[o]? = some v) : w.cell? ⟨b, o, none⟩ = some v := by
  rw [cell_of_row w b o c T (0, 0) h]; exact hv
theorem Blk.free (h : Blk w b c T) (o : Nat) : w.frozen? ⟨b, o, none⟩ = false := by
  have h' : w.heap[b]? = some (.cells c T (0, 0)) := h
  simp [World.frozen?, h']
theorem Blk.set (h : Blk w b c T) (o : Nat) (v : Value) : Blk (w.setCell ⟨b, o, none⟩ v) b (c.setIfInBounds o v) T := by
  have hlt := h.lt
  have h' : w.heap[b] = .cells c T (0, 0) := by
    have := h; unfold Blk at this; simpa [Array.getElem?_eq_getElem hlt] using this
  show (w.heap.modify b _)[b]? = _
  rw [Array.getElem?_eq_getElem (by simpa using hlt), Array.getElem_modify_self, h']
  simp
theorem Blk.set_ne (h : Blk w b c T) (hn : b ≠ b') (o : Nat) (s : Option Nat) (v : Value) : Blk (w.setCell ⟨b', o, s⟩ v) b c T := by
  unfold Blk; rw [Below.heap_setCell _ _ _ _ hn]; exact h
theorem Blk.alloc (h : Blk w b c T) (o : Obj) : Blk (w.alloc o) b c T := by
  unfold Blk; rw [Below.heap_alloc _ _ _ h.lt]; exact h
theorem Blk.new (w : World) (c : Array Value) (T : TypeId) : Blk (w.alloc (.cells c T)) w.heap.size c T := heap_alloc_new w _
theorem Blk.drew (h : Blk w b c T) : Blk w.drew b c T := h
theorem Blk.drewN (h : Blk w b c T) (n : Nat) : Blk (w.drewN n) b c T := h
theorem Blk.keep (h : Blk w b c T) (k : Chg L w w') (hn : b ∉ L) : Blk w' b c T := k.heap h hn
theorem Blk.inj {c' : Array Value} {T' : TypeId} (h : Blk w b c T) (h' : Blk w b c' T') : c = c' := by
  have := h.symm.trans h'
  simp only [Option.some.injEq, Obj.cells.injEq] at this; exact this.1
end

/-! ### What a slice reads as: so many cells, 'size' an element -/
def Reads (w : World) (size : Nat) (v : Value) (n : Nat) (xs : List Value) : Prop :=
  xs.length = n * size ∧ n ≤ maxLen ∧ ((n = 0 ∧ ∃ a c, v = .slice a 0 c ∧ (a = none → c = 0) ∧ c ≤ maxLen) ∨
    (0 < n ∧ ∃ b off c, v = .slice (some ⟨b, off, none⟩) n c ∧ n ≤ c ∧ c ≤ maxLen ∧ ∀ i u, xs[i]? = some u → w.cell? ⟨b, off + i, none⟩ = some u))

section
variable {w w' : World} {size n : Nat} {v : Value} {xs : List Value} {L : List Nat}
/-- the block that a slice's cells lie in, if it has any -/
theorem add_plain (b off i : Nat) : (⟨b, off, none⟩ : Addr).add i = ⟨b, off + i, none⟩ := by unfold Addr.add; split <;> simp_all
theorem Reads.of_own {base : Nat} {e : TypeId} (h : w.ownsRow base e size v n xs) (hs : 0 < size) : Reads w size v n xs := by
  refine ⟨h.1, ?_⟩
  rcases h.2 with ⟨rfl, rfl⟩ | ⟨g, cap, cur, rfl, hb, hg, hn, hc, hz, ht⟩
  · exact ⟨Nat.zero_le _, .inl ⟨rfl, none, 0, rfl, fun _ => rfl, Nat.zero_le _⟩⟩
  · refine ⟨by omega, ?_⟩
    rcases Nat.eq_zero_or_pos n with h0 | h0
    · exact .inl ⟨h0, _, _, by rw [h0], (fun hh => by cases hh), hc⟩
    · refine .inr ⟨h0, g, 0, cap, rfl, hn, hc, fun i u hu => ?_⟩
      have := h.cells (g := g) rfl i u hu
      rwa [add_plain] at this
theorem Reads.nil (w : World) (size : Nat) : Reads w size (.slice none 0 0) 0 [] := ⟨by simp, Nat.zero_le _, .inl ⟨rfl, none, 0, rfl, fun _ => rfl, Nat.zero_le _⟩⟩
theorem Reads.keep (h : Reads w size v n xs) (k : ∀ b o u, w.cell? ⟨b, o, none⟩ = some u → (∃ i : Nat, xs[i]? = some u) → w'.cell? ⟨b, o, none⟩ = some u) : Reads w' size v n xs := by
  obtain ⟨h1, h2, h3⟩ := h
  refine ⟨h1, h2, ?_⟩
  rcases h3 with h3 | ⟨h0, b, off, c, rfl, hn, hc, hx⟩
  · exact .inl h3
  · exact .inr ⟨h0, b, off, c, rfl, hn, hc, fun i u hu => k _ _ _ (hx i u hu) ⟨i, hu⟩⟩
theorem Reads.fresh (h : Reads w size v n xs) (k : Chg [] w w') : Reads w' size v n xs := h.keep fun _ _ _ hc _ => k.keep hc (by simp)
theorem Reads.below (h : Reads w size v n xs) (k : Below w.heap.size w w') : Reads w' size v n xs := h.fresh (Chg.of_below k)
theorem Reads.alloc (h : Reads w size v n xs) (o : Obj) : Reads (w.alloc o) size v n xs := h.fresh ((Chg.refl _ _).alloc o)
theorem Reads.drewN (h : Reads w size v n xs) (k : Nat) : Reads (w.drewN k) size v n xs := h.fresh ((Chg.refl _ _).drewN k)
theorem Reads.drew (h : Reads w size v n xs) : Reads w.drew size v n xs := h.fresh ((Chg.refl _ _).drew)
theorem Reads.len (h : Reads w size v n xs) : xs.length = n * size := h.1
theorem Reads.le (h : Reads w size v n xs) : n ≤ maxLen := h.2.1
/-- A slice that lies in other blocks than L reads as it did. -/
theorem Reads.chg (h : Reads w size v n xs) (k : Chg L w w') (hn : ∀ b, v.ownBlock = some b → b ∉ L) : Reads w' size v n xs := by
  obtain ⟨h1, h2, h3⟩ := h
  refine ⟨h1, h2, ?_⟩
  rcases h3 with h3 | ⟨h0, b, off, c, rfl, hn', hc, hx⟩
  · exact .inl h3
  · exact .inr ⟨h0, b, off, c, rfl, hn', hc, fun i u hu => k.keep (hx i u hu) (hn b rfl)⟩

/-- A slice whose cells are known whole, one cell an element. -/
theorem Reads.of_cells (b off len cap : Nat) (xs : List Value) (hl : xs.length = len) (hn : len ≤ cap) (hc : cap ≤ maxLen) (hx : ∀ i u, xs[i]? = some u → w.cell? ⟨b, off + i, none⟩ = some u) :
    Reads w 1 (.slice (some ⟨b, off, none⟩) len cap) len xs := by
  refine ⟨by omega, by omega, ?_⟩
  rcases Nat.eq_zero_or_pos len with h0 | h0
  · exact .inl ⟨h0, _, _, by rw [h0], (fun hh => by cases hh), hc⟩
  · exact .inr ⟨h0, b, off, cap, rfl, hn, hc, hx⟩
end

theorem reads_lit (w : World) (c : Array Value) (T : TypeId) (n : Nat) (h : c.size = n) (hm : n ≤ maxLen) : Reads (w.alloc (.cells c T)) 1 (.slice (some ⟨w.heap.size, 0, none⟩) n n) n c.toList :=
  Reads.of_cells _ _ _ _ _ (by simpa using h) (Nat.le_refl _) hm fun i u hu => (Blk.new w c T).cell (by simpa using hu)
theorem reads_one (w : World) (x : Value) (T : TypeId) : Reads (w.alloc (.cells #[x] T)) 1 (.slice (some ⟨w.heap.size, 0, none⟩) 1 1) 1 [x] := reads_lit w #[x] T 1 rfl (by decide)

/-- A piece of a slice. -/
theorem reads_sliced {w : World} {size n c : Nat} {a : Option Addr} {xs : List Value} (h : Reads w size (.slice a n c) n xs) (l k : Nat) (hl : l ≤ k) (hk : k ≤ n) :
    Reads w size (sliced a l k c size) (k - l) ((xs.drop (l * size)).take ((k - l) * size)) ∧ ((sliced a l k c size).ownBlock = (Value.slice a n c).ownBlock) := by
  obtain ⟨h1, h2, h3⟩ := h
  have hkl : k * size = l * size + (k - l) * size := by rw [← Nat.add_mul]; congr 1; omega
  have hkn : k * size ≤ n * size := Nat.mul_le_mul_right _ hk
  have hlen : ((xs.drop (l * size)).take ((k - l) * size)).length = (k - l) * size := by
    rw [List.length_take, List.length_drop, h1]; omega
  rcases h3 with ⟨h0, a', c', he, ha, hc⟩ | ⟨h0, b, off, c', he, hn, hc, hx⟩
  · simp only [Value.slice.injEq] at he
    obtain ⟨rfl, _, rfl⟩ := he
    obtain rfl : k = 0 := by omega
    obtain rfl : l = 0 := by omega
    refine ⟨⟨hlen, Nat.zero_le _, .inl ⟨rfl, a, c, ?_, ha, hc⟩⟩, ?_⟩
    · unfold sliced
      simp only [Nat.zero_mul, Nat.sub_zero]
      cases a with
      | none => simp
      | some x => simp [Addr.add]
    · unfold sliced
      cases a with
      | none => simp [Value.ownBlock]
      | some x => simp [Addr.add, Value.ownBlock]
  · simp only [Value.slice.injEq] at he
    obtain ⟨rfl, _, rfl⟩ := he
    by_cases hcl : c = l
    · obtain rfl : k = l := by omega
      subst hcl
      refine ⟨⟨hlen, by omega, .inl ⟨by omega, some ⟨b, off, none⟩, 0, by simp [sliced], (fun hh => by cases hh), Nat.zero_le _⟩⟩, by simp [sliced, Value.ownBlock]⟩
    · have hv : sliced (some ⟨b, off, none⟩) l k c size = .slice (some ⟨b, off + l * size, none⟩) (k - l) (c - l) := by
        simp [sliced, hcl, add_plain]
      rw [hv]
      refine ⟨⟨hlen, by omega, ?_⟩, rfl⟩
      rcases Nat.eq_zero_or_pos (k - l) with h4 | h4
      · exact .inl ⟨h4, _, _, by rw [h4], (fun hh => by cases hh), by omega⟩
      · refine .inr ⟨h4, b, off + l * size, c - l, rfl, by omega, by omega, fun i u hu => ?_⟩
        have hi : i < (k - l) * size := by
          rcases Nat.lt_or_ge i ((k - l) * size) with h | h
          · exact h
          · rw [List.getElem?_eq_none (by omega)] at hu; cases hu
        rw [List.getElem?_take_of_lt hi, List.getElem?_drop] at hu
        rw [Nat.add_assoc]
        exact hx _ u hu

theorem sizeOf_run {P : Program} {e : TypeId} {size : Nat} (he : (P.info? e).map (·.size) = some size) (w : World) : (sizeOf e).run P w = .ok size w := by
  obtain ⟨i, hi, hs⟩ := Option.map_eq_some_iff.1 he
  simp [sizeOf, typeInfo, hi, hs]

section
variable {P : Program} {t e : TypeId} {size : Nat} {w : World} {v : Value} {n : Nat} {xs : List Value}
theorem reads_slice (h : Reads w size v n xs) : ∃ a c, v = .slice a n c ∧ n ≤ c := by
  obtain ⟨_, _, ⟨h0, a, c, rfl, _⟩ | ⟨h0, b, off, c, rfl, hn, _⟩⟩ := h
  · exact ⟨a, c, by rw [h0], by omega⟩
  · exact ⟨_, c, rfl, hn⟩
/-- s[:k], s[l:], s[l:k] of a slice that reads. -/
theorem slice_high (ht : P.underlying t = some (.slice e)) (he : (P.info? e).map (·.size) = some size) (h : Reads w size v n xs) (k : Nat) (hk : k ≤ n) :
    ∃ v', (∀ u, (Instr.slice t v none (some (.int .i64 (k : Int))) none).run P u = .ok v' u) ∧ Reads w size v' k (xs.take (k * size)) ∧ v'.ownBlock = v.ownBlock := by
  obtain ⟨a, c, rfl, hc⟩ := reads_slice h
  have hel : P.elem t = e := by simp [Program.elem, ht]
  have hr := reads_sliced h 0 k (Nat.zero_le _) hk
  refine ⟨sliced a 0 k c size, fun u => ?_, by simpa using hr.1, hr.2⟩
  rw [run_slice_h (P := P) (w := u) t a n c (by rw [hel]; exact ht) .i64 k (by omega) (by omega), hel, sizeOf_run he]
  simp [Result.andThen]
theorem slice_low (ht : P.underlying t = some (.slice e)) (he : (P.info? e).map (·.size) = some size) (h : Reads w size v n xs) (l : Nat) (hl : l ≤ n) :
    ∃ v', (∀ u, (Instr.slice t v (some (.int .i64 (l : Int))) none none).run P u = .ok v' u) ∧ Reads w size v' (n - l) (xs.drop (l * size)) ∧ v'.ownBlock = v.ownBlock := by
  obtain ⟨a, c, rfl, hc⟩ := reads_slice h
  have hel : P.elem t = e := by simp [Program.elem, ht]
  have hr := reads_sliced h l n hl (Nat.le_refl _)
  refine ⟨sliced a l n c size, fun u => ?_, ?_, hr.2⟩
  · rw [run_slice_l (P := P) (w := u) t a n c (by rw [hel]; exact ht) .i64 l (by omega) (by omega), hel, sizeOf_run he]
    simp [Result.andThen]
  · have := hr.1
    rwa [List.take_of_length_le (by rw [List.length_drop, h.1, Nat.sub_mul]; omega)] at this
/-- s[i] of a slice that reads: where element i's cells stand, and what they hold. -/
theorem reads_index (ht : P.underlying t = some (.slice e)) (he : (P.info? e).map (·.size) = some size) (h : Reads w size v n xs) :
    ∃ b off, (∀ (i : Nat), i < n → ∀ u, (Instr.indexAt t v (.int .i64 (i : Int))).run P u = .ok (.pointer (some ⟨b, off + i * size, none⟩)) u) ∧
      (∀ (j : Nat) u, xs[j]? = some u → w.cell? ⟨b, off + j, none⟩ = some u) ∧ (0 < n → v.ownBlock = some b) := by
  have hel : P.elem t = e := by simp [Program.elem, ht]
  obtain ⟨h1, _, ⟨h0, a, c, rfl, _⟩ | ⟨h0, b, off, c, rfl, hn, hc, hx⟩⟩ := h
  · refine ⟨0, 0, fun i hi => by omega, fun j u hu => ?_, fun hp => by omega⟩
    subst h0
    have hnil : xs = [] := List.eq_nil_of_length_eq_zero (by simpa using h1)
    rw [hnil] at hu
    simp at hu
  · refine ⟨b, off, fun i hi u => ?_, hx, fun _ => rfl⟩
    rw [run_indexAt_slice (P := P) u t ⟨b, off, none⟩ n c .i64 i (by rw [hel]; exact ht), hel, sizeOf_run he, if_pos ⟨by omega, by omega⟩]
    simp [Result.andThen, add_plain]
end

/-! ### append onto a slice of the call's own, whatever the source -/
section
variable {P : Program} (w : World)
theorem run_append_any (base : Nat) (t ty e : TypeId) (i : TypeInfo) (z : Value) (size bytes : Nat) (ht : P.underlying t = some (.slice e)) (hi : P.info? e = some i) (hz : i.zero = some z)
    (hsize : i.size = size) (hby : i.bytes = bytes) (hzs : z.cells.size = size) (hsz : 0 < size)
    (v : Value) (n : Nat) (xs : List Value) (hown : w.ownsRow base e size v n xs)
    (v2 : Value) (m : Nat) (news : List Value) (hr : Reads w size v2 m news) (h1 : ∀ u ∈ news, u.oneCell' = true)
    (h63 : n + m ≤ maxLen) (hbytes : (n + m) * bytes ≤ 140737488355328) (hbase : base ≤ w.heap.size) :
    ∃ v' w', (Builtin.append_ #[t, t] ty #[v, v2]).run P w = .ok v' w' ∧ w'.ownsRow base e size v' (n + m) (xs ++ news) ∧ w.grownBy w' v.ownBlock := by
  obtain ⟨hl, hm, hr | ⟨h0, b, off, c, rfl, hc, hcm, hx⟩⟩ := hr
  · obtain ⟨rfl, a, c, rfl, ha, hc⟩ := hr
    have hn : news = [] := by rw [Nat.zero_mul] at hl; exact List.eq_nil_of_length_eq_zero hl
    subst hn
    cases a with
    | none =>
      obtain rfl := ha rfl
      exact ⟨v, w, run_append_owned_none (P := P) (w := w) base t ty e i size ht hi v n xs hown, by simpa using hown, World.grownBy.refl _ _⟩
    | some x =>
      obtain ⟨v', w', r1, r2, r3, _⟩ := run_append_own (P := P) w base t ty e i z size bytes ht hi hz hsize hby hzs hsz v n xs hown x 0 c [] (by simp) (by simp) (by simp) h63 hbytes hbase
      exact ⟨v', w', r1, r2, r3⟩
  · obtain ⟨v', w', r1, r2, r3, _⟩ := run_append_own (P := P) w base t ty e i z size bytes ht hi hz hsize hby hzs hsz v n xs hown ⟨b, off, none⟩ m c news hl (fun j u hj => by rw [add_plain]; exact hx j u hj) h1 h63 hbytes hbase
    exact ⟨v', w', r1, r2, r3⟩

theorem wp_append_any {o : Oper} {a : Act} {K : Act → World → Prop} {Q : Exit → Act → World → Prop} (s x : Operand) (t : TypeId)
    (ho : o.op = .call { callee := .builtin .append, args := #[s, x], argTypes := #[t, t] })
    (base : Nat) (e : TypeId) (i : TypeInfo) (z : Value) (size bytes : Nat) (ht : P.underlying t = some (.slice e)) (hi : P.info? e = some i) (hz : i.zero = some z)
    (hsize : i.size = size) (hby : i.bytes = bytes) (hzs : z.cells.size = size) (hsz : 0 < size)
    (v : Value) (n : Nat) (xs : List Value) (hs : a.eval s = v) (hown : w.ownsRow base e size v n xs)
    (v2 : Value) (m : Nat) (news : List Value) (hx : a.eval x = v2) (hr : Reads w size v2 m news) (h1 : ∀ u ∈ news, u.oneCell' = true)
    (h63 : n + m ≤ maxLen) (hbytes : (n + m) * bytes ≤ 140737488355328) (hbase : base ≤ w.heap.size)
    (h : ∀ v' w', w'.ownsRow base e size v' (n + m) (xs ++ news) → w.grownBy w' v.ownBlock → K (a.put o.dst v') w') : o.wp P a w K Q := by
  obtain ⟨v', w', hr, h2, h3⟩ := run_append_any (P := P) w base t o.type e i z size bytes ht hi hz hsize hby hzs hsz v n xs hown v2 m news hr h1 h63 hbytes hbase
  unfold Oper.wp execOp
  simp only [ho, resolve, invoke, builtin, Sem.run_bind, Sem.run_pure, Result.andThen_ok, List.map_toArray, List.map_cons, List.map_nil, hs, hx, hr]
  exact h v' w' h2 h3

theorem wpList_append_any {ops : Array Oper} {rest : List Oper} {o : Oper} {a : Act} {Q : Exit → Act → World → Prop} (hgd : o.guard = none) (s x : Operand) (t : TypeId)
    (ho : o.op = .call { callee := .builtin .append, args := #[s, x], argTypes := #[t, t] })
    (base : Nat) (e : TypeId) (i : TypeInfo) (z : Value) (size bytes : Nat) (ht : P.underlying t = some (.slice e)) (hi : P.info? e = some i) (hz : i.zero = some z)
    (hsize : i.size = size) (hby : i.bytes = bytes) (hzs : z.cells.size = size) (hsz : 0 < size)
    (v : Value) (n : Nat) (xs : List Value) (hs : a.eval s = v) (hown : w.ownsRow base e size v n xs)
    (v2 : Value) (m : Nat) (news : List Value) (hx : a.eval x = v2) (hr : Reads w size v2 m news) (h1 : ∀ u ∈ news, u.oneCell' = true)
    (h63 : n + m ≤ maxLen) (hbytes : (n + m) * bytes ≤ 140737488355328) (hbase : base ≤ w.heap.size)
    (h : ∀ v' w', w'.ownsRow base e size v' (n + m) (xs ++ news) → w.grownBy w' v.ownBlock → wpList P ops Q rest (a.put o.dst v') w') : wpList P ops Q (o :: rest) a w :=
  wpList_plain hgd fun _ hK => wp_append_any w s x t ho base e i z size bytes ht hi hz hsize hby hzs hsz v n xs hs hown v2 m news hx hr h1 h63 hbytes hbase fun v' w' h2 h3 => hK _ _ (h v' w' h2 h3)

end

/-! ### bytes as a string -/
/-! ### make of so many zero elements of one cell; copy into a block that is known whole -/
def zeros (z : Value) (n : Nat) : Array Value := (List.replicate n z).toArray
/-! ### A region that draws its order: operations that only read, then a tail in one forced order -/
end Go.Proofs.YtkedegbpkkgeaaaGreat.kit
/- A struct as one value out of and into a block (no project text). -/
namespace Go.Proofs.YtkedegbpkkgeaaaGreat.blk
open Go Go.RowKit Go.Proofs.YtkedegbpkkgeaaaGreat.kit
set_option linter.unusedVariables false
set_option linter.unusedSimpArgs false

section
variable {P : Program} {w w0 : World} {ops : Array Oper} {rest : List Oper} {o : Oper} {a : Act} {K : Act → World → Prop} {Q : Exit → Act → World → Prop}
theorem Blk.row {b : Nat} {c c' : Array Value} {T : TypeId} (h : Blk w b c T) : Blk (w.setRow b c') b c' T := setRow_heap w b c c' T (0, 0) h
theorem Chg.setRow {L : List Nat} {b : Nat} {c' : Array Value} (h : Chg L w0 w) (hb : b ∈ L ∨ w0.heap.size ≤ b) : Chg L w0 (w.setRow b c') :=
  h.into (L := [b]) ⟨rfl, rfl, rfl, by simp [World.setRow], fun k hk hn => by
    simp only [World.setRow]
    rw [Array.getElem?_modify]
    have : ¬ b = k := fun e => hn (by simp [e])
    simp [this]⟩ fun x hx => by
    simp only [List.mem_singleton] at hx; subst hx; exact hb
theorem wp_store_blk (ty : TypeId) (x y : Operand) (ho : o.op = .store ty x y) (g : Nat) (cells : Array Value) (hx : a.eval x = .pointer (some ⟨g, 0, none⟩)) (hy : a.eval y = .agg cells)
    {t : TypeId} {old : Array Value} (hb : Blk w g old t) (hi : (P.info? ty).map (·.size) = some cells.size) (hold : old.size = cells.size) (h1 : cells.all (·.oneCell') = true)
    (h : ∀ w', Blk w' g cells t → Chg [g] w w' → K (a.put o.dst undef) w') : o.wp P a w K Q :=
  wp_store_row ty x y ho g cells hx hy t old hb hi hold h1 (h _ (Blk.row hb) (Chg.setRow (Chg.refl _ _) (.inl (by simp))))
theorem wpList_store_blk (hgd : o.guard = none) (ty : TypeId) (x y : Operand) (ho : o.op = .store ty x y) (g : Nat) (cells : Array Value) (hx : a.eval x = .pointer (some ⟨g, 0, none⟩)) (hy : a.eval y = .agg cells)
    {t : TypeId} {old : Array Value} (hb : Blk w g old t) (hi : (P.info? ty).map (·.size) = some cells.size) (hold : old.size = cells.size) (h1 : cells.all (·.oneCell') = true)
    (h : ∀ w', Blk w' g cells t → Chg [g] w w' → wpList P ops Q rest (a.put o.dst undef) w') : wpList P ops Q (o :: rest) a w :=
  wpList_store_row hgd ty x y ho g cells hx hy t old hb hi hold h1 (h _ (Blk.row hb) (Chg.setRow (Chg.refl _ _) (.inl (by simp))))
theorem wpList_load_blk (hgd : o.guard = none) (ty : TypeId) (x : Operand) (ho : o.op = .load ty x) (g : Nat) (hx : a.eval x = .pointer (some ⟨g, 0, none⟩))
    {t : TypeId} {cs : Array Value} (hb : Blk w g cs t) (d : TypeDesc) (hu : P.underlying ty = some d) (hd : (match d with | .struct _ | .array _ _ => true | _ => false) = true) (hi : (P.info? ty).map (·.size) = some cs.size)
    (h : wpList P ops Q rest (a.put o.dst (.agg cs)) w) : wpList P ops Q (o :: rest) a w := wpList_load_row hgd ty x ho g hx t cs (0, 0) d hb hu hd hi h
end
end Go.Proofs.YtkedegbpkkgeaaaGreat.blk
