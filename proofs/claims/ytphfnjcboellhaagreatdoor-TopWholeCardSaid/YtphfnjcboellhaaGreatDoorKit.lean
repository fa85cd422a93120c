import Derived.WalkKit
import Derived.Laws.AppendOwnNone
import Derived.Laws.CopyOwn
import Derived.Deep.QuietTactic
import Derived.Deep.RegionLaw
import Derived.BigQuiet
import Derived.Lib.Hide
import Derived.StillTailTactics
namespace Go.Proofs.YtphfnjcboellhaaGreatDoor.kit
open Go Go.RowKit
theorem _root_.Go.Proofs.YtphfnjcboellhaaGreatDoor.hid {p : Prop} (h : p) : RowKit.Hid p := h
theorem _root_.Go.Proofs.YtphfnjcboellhaaGreatDoor.sA {α : Type _} (l : List α) (i : Nat) (a : α) : l.toArray.setIfInBounds i a = (l.set i a).toArray := List.setIfInBounds_toArray l i a
theorem _root_.Go.Proofs.YtphfnjcboellhaaGreatDoor.sB {α : Type _} {a b : α} {l : List α} : (a :: l).set 0 b = b :: l := rfl
theorem _root_.Go.Proofs.YtphfnjcboellhaaGreatDoor.sC {α : Type _} {a b : α} {l : List α} {n : Nat} : (a :: l).set (n + 1) b = a :: l.set n b := rfl
theorem ret_int {k : IntKind} {a b : Int} (h : a = b) : Ending.returned (.int k a) = .returned (.int k b) := by rw [h]
theorem ret_bool {a b : Bool} (h : a = b) : Ending.returned (.bool a) = .returned (.bool b) := by rw [h]
def Quiet (w w' : World) : Prop := ∃ n, w' = w.drewN n
structure Chg (L : List Nat) (w w' : World) : Prop where
 os : w'.os = w.os
 tape : w'.tape = w.tape
 output : w'.output = w.output
 size : w.heap.size <= w'.heap.size
 block : ∀ k, k < w.heap.size -> k ∉ L -> w'.heap[k]? = w.heap[k]?
section
variable {L L' : List Nat} {a b c w : World}
theorem Chg.refl (L : List Nat) (w : World) : Chg L w w := ⟨rfl, rfl, rfl, Nat.le_refl _, fun _ _ _ => rfl⟩
theorem Chg.into (h : Chg L' a b) (k : Chg L b c) (hL : ∀ x ∈ L, x ∈ L' \/ a.heap.size <= x) : Chg L' a c :=
 ⟨k.os.trans h.os, k.tape.trans h.tape, k.output.trans h.output, Nat.le_trans h.size k.size, fun i hi hn =>
  (k.block i (Nat.lt_of_lt_of_le hi h.size) (fun hm => by rcases hL i hm with h1 | h1; exact hn h1; omega)).trans (h.block i hi hn)⟩
theorem Chg.trans (h : Chg L a b) (k : Chg L b c) : Chg L a c := h.into k fun _ hx => .inl hx
theorem Chg.fresh (h : Chg L a b) (k : Chg [] b c) : Chg L a c := h.into k fun _ hx => by cases hx
theorem Chg.mono (h : Chg L a b) (hL : ∀ x ∈ L, x ∈ L') : Chg L' a b := (Chg.refl L' a).into h fun x hx => .inl (hL x hx)
theorem Chg.drewN (h : Chg L a b) (n : Nat) : Chg L a (b.drewN n) := ⟨h.os, h.tape, h.output, h.size, h.block⟩
theorem Chg.drew (h : Chg L a b) : Chg L a b.drew := ⟨h.os, h.tape, h.output, h.size, h.block⟩
theorem Chg.alloc (h : Chg L a b) (o : Obj) : Chg L a (b.alloc o) :=
 h.into (L := []) ⟨rfl, rfl, rfl, by simp, fun k hk _ => Below.heap_alloc _ _ _ hk⟩ fun _ hx => by cases hx
theorem Chg.setCell (h : Chg L a b) {p : Addr} (hp : p.block ∈ L \/ a.heap.size <= p.block) (u : Value) : Chg L a (b.setCell p u) :=
 h.into (L := [p.block]) ⟨rfl, rfl, rfl, by simp [World.setCell], fun k hk hn => Below.heap_setCell _ _ _ _ (fun e => hn (by simp [e]))⟩ fun x hx => by
  simp only [List.mem_singleton] at hx; subst hx; exact hp
theorem Chg.grown (h : Chg L a b) {row : Option Nat} (hg : b.grownBy c row) (hr : ∀ k, row = some k -> k ∈ L \/ a.heap.size <= k) : Chg L a c := by
 refine h.into (L := row.toList) ⟨hg.os, hg.tape, hg.output, hg.size, fun k hk hn => hg.block k hk (fun e => hn (by simp [<- e]))⟩ fun x hx => hr x ?_
 simpa using hx
theorem Chg.below (h : Chg [] a b) : Below a.heap.size a b := ⟨h.os, h.tape, h.output, h.size, fun k hk => h.block k hk (by simp)⟩
theorem Chg.heap (h : Chg L a b) {k : Nat} {o : Obj} (hb : a.heap[k]? = some o) (hn : k ∉ L) : b.heap[k]? = some o :=
 (h.block k (lt_of_block hb) hn).trans hb
theorem Chg.keep (h : Chg L a b) {p : Addr} {v : Value} (hc : a.cell? p = some v) (hn : p.block ∉ L) : b.cell? p = some v :=
 (World.cell?_of_block (h.block p.block (World.block_lt_of_cell? a p hc) hn)).trans hc
end
def Blk (w : World) (b : Nat) (c : Array Value) (T : TypeId) : Prop := w.heap[b]? = some (.cells c T (0, 0))
section
variable {w w' : World} {b b' : Nat} {c : Array Value} {T : TypeId} {L : List Nat}
theorem Blk.lt (h : Blk w b c T) : b < w.heap.size := lt_of_block h
theorem Blk.cell (h : Blk w b c T) {o : Nat} {v : Value} (hv : c[o]? = some v) : w.cell? ⟨b, o, none⟩ = some v := by
 rw [cell_of_row w b o c T (0, 0) h]; exact hv
theorem Blk.free (h : Blk w b c T) (o : Nat) : w.frozen? ⟨b, o, none⟩ = false := by
 have h' : w.heap[b]? = some (.cells c T (0, 0)) := h
 simp [World.frozen?, h']
theorem Blk.set (h : Blk w b c T) (o : Nat) (v : Value) : Blk (w.setCell ⟨b, o, none⟩ v) b (c.setIfInBounds o v) T := by
 have hlt := h.lt
 have h' : w.heap[b] = .cells c T (0, 0) := by
  have := h; unfold Blk at this; simpa [Array.getElem?_eq_getElem hlt] using this
 show (w.heap.modify b _)[b]? = _
 rw [Array.getElem?_eq_getElem (by simpa using hlt), Array.getElem_modify_self, h']
 simp
theorem Blk.set_ne (h : Blk w b c T) (hn : b ≠ b') (o : Nat) (s : Option Nat) (v : Value) : Blk (w.setCell ⟨b', o, s⟩ v) b c T := by
 unfold Blk; rw [Below.heap_setCell _ _ _ _ hn]; exact h
theorem Blk.alloc (h : Blk w b c T) (o : Obj) : Blk (w.alloc o) b c T := by
 unfold Blk; rw [Below.heap_alloc _ _ _ h.lt]; exact h
theorem Blk.new (w : World) (c : Array Value) (T : TypeId) : Blk (w.alloc (.cells c T)) w.heap.size c T := heap_alloc_new w _
theorem Blk.drew (h : Blk w b c T) : Blk w.drew b c T := h
theorem Blk.keep (h : Blk w b c T) (k : Chg L w w') (hn : b ∉ L) : Blk w' b c T := k.heap h hn
end
def Reads (w : World) (size : Nat) (v : Value) (n : Nat) (xs : List Value) : Prop :=
 xs.length = n * size /\ n <= maxLen /\ ((n = 0 /\ ∃ a c, v = .slice a 0 c /\ (a = none -> c = 0) /\ c <= maxLen) ∨
  (0 < n /\ ∃ b off c, v = .slice (some ⟨b, off, none⟩) n c /\ n <= c /\ c <= maxLen /\ ∀ i u, xs[i]? = some u -> w.cell? ⟨b, off + i, none⟩ = some u))
section
variable {w w' : World} {size n : Nat} {v : Value} {xs : List Value} {L : List Nat}
theorem add_plain (b off i : Nat) : (⟨b, off, none⟩ : Addr).add i = ⟨b, off + i, none⟩ := by unfold Addr.add; split <;> simp_all
theorem Reads.of_own {base : Nat} {e : TypeId} (h : w.ownsRow base e size v n xs) (hs : 0 < size) : Reads w size v n xs := by
 refine ⟨h.1, ?_⟩
 rcases h.2 with ⟨rfl, rfl⟩ | ⟨g, cap, cur, rfl, hb, hg, hn, hc, hz, ht⟩
 · exact ⟨Nat.zero_le _, .inl ⟨rfl, none, 0, rfl, fun _ => rfl, Nat.zero_le _⟩⟩
 · refine ⟨by omega, ?_⟩
   rcases Nat.eq_zero_or_pos n with h0 | h0
   · exact .inl ⟨h0, _, _, by rw [h0], (fun hh => by cases hh), hc⟩
   · refine .inr ⟨h0, g, 0, cap, rfl, hn, hc, fun i u hu => ?_⟩
     have := h.cells (g := g) rfl i u hu
     rwa [add_plain] at this
theorem Reads.nil (w : World) (size : Nat) : Reads w size (.slice none 0 0) 0 [] := ⟨by simp, Nat.zero_le _, .inl ⟨rfl, none, 0, rfl, fun _ => rfl, Nat.zero_le _⟩⟩
theorem Reads.keep (h : Reads w size v n xs) (k : ∀ b o u, w.cell? ⟨b, o, none⟩ = some u -> (∃ i : Nat, xs[i]? = some u) -> w'.cell? ⟨b, o, none⟩ = some u) : Reads w' size v n xs := by
 obtain ⟨h1, h2, h3⟩ := h
 refine ⟨h1, h2, ?_⟩
 rcases h3 with h3 | ⟨h0, b, off, c, rfl, hn, hc, hx⟩
 · exact .inl h3
 · exact .inr ⟨h0, b, off, c, rfl, hn, hc, fun i u hu => k _ _ _ (hx i u hu) ⟨i, hu⟩⟩
theorem Reads.fresh (h : Reads w size v n xs) (k : Chg [] w w') : Reads w' size v n xs := h.keep fun _ _ _ hc _ => k.keep hc (by simp)
theorem Reads.alloc (h : Reads w size v n xs) (o : Obj) : Reads (w.alloc o) size v n xs := h.fresh ((Chg.refl _ _).alloc o)
theorem Reads.le (h : Reads w size v n xs) : n <= maxLen := h.2.1
end
theorem sizeOf_run {P : Program} {e : TypeId} {size : Nat} (he : (P.info? e).map (·.size) = some size) (w : World) : (sizeOf e).run P w = .ok size w := by
 obtain ⟨i, hi, hs⟩ := Option.map_eq_some_iff.1 he
 simp [sizeOf, typeInfo, hi, hs]
section
variable {P : Program} {t e : TypeId} {size : Nat} {w : World} {v : Value} {n : Nat} {xs : List Value}
theorem reads_slice (h : Reads w size v n xs) : ∃ a c, v = .slice a n c /\ n <= c := by
 obtain ⟨_, _, ⟨h0, a, c, rfl, _⟩ | ⟨h0, b, off, c, rfl, hn, _⟩⟩ := h
 · exact ⟨a, c, by rw [h0], by omega⟩
 · exact ⟨_, c, rfl, hn⟩
theorem slice_tail (ht : P.underlying t = some (.slice e)) (he : (P.info? e).map (·.size) = some 1) (g n c l : Nat) (hl : l <= n) :
 ∃ dp dc, (∀ u, (Instr.slice t (.slice (some ⟨g, 0, none⟩) n c) (some (.int .i64 (l : Int))) none none).run P u = .ok (.slice dp (n - l) dc) u) /\ (0 < n - l -> n <= c -> dp = some ⟨g, l, none⟩) := by
 have hel : P.elem t = e := by simp [Program.elem, ht]
 have e1 : ∀ u, (Instr.slice t (.slice (some ⟨g, 0, none⟩) n c) (some (.int .i64 (l : Int))) none none).run P u = .ok (sliced (some ⟨g, 0, none⟩) l n c 1) u := fun u => by
  rw [run_slice_l (P := P) (w := u) t (some ⟨g, 0, none⟩) n c (by rw [hel]; exact ht) .i64 l (by omega) (by omega), hel, sizeOf_run he]
  simp [Result.andThen]
 by_cases hci : c = l
 · exact ⟨some ⟨g, 0, none⟩, 0, fun u => by rw [e1]; simp [sliced, hci], fun hp hc => by omega⟩
 · exact ⟨some ⟨g, l, none⟩, c - l, fun u => by rw [e1]; simp [sliced, hci, add_plain], fun _ _ => rfl⟩
theorem reads_index (ht : P.underlying t = some (.slice e)) (he : (P.info? e).map (·.size) = some size) (h : Reads w size v n xs) :
 ∃ b off, (∀ (i : Nat), i < n -> ∀ u, (Instr.indexAt t v (.int .i64 (i : Int))).run P u = .ok (.pointer (some ⟨b, off + i * size, none⟩)) u) ∧
  (∀ (j : Nat) u, xs[j]? = some u -> w.cell? ⟨b, off + j, none⟩ = some u) /\ (0 < n -> v.ownBlock = some b) := by
 have hel : P.elem t = e := by simp [Program.elem, ht]
 obtain ⟨h1, _, ⟨h0, a, c, rfl, _⟩ | ⟨h0, b, off, c, rfl, hn, hc, hx⟩⟩ := h
 · refine ⟨0, 0, fun i hi => by omega, fun j u hu => ?_, fun hp => by omega⟩
   subst h0
   have hnil : xs = [] := List.eq_nil_of_length_eq_zero (by simpa using h1)
   rw [hnil] at hu
   simp at hu
 · refine ⟨b, off, fun i hi u => ?_, hx, fun _ => rfl⟩
   rw [run_indexAt_slice (P := P) u t ⟨b, off, none⟩ n c .i64 i (by rw [hel]; exact ht), hel, sizeOf_run he, if_pos ⟨by omega, by omega⟩]
   simp [Result.andThen, add_plain]
end
section
variable {P : Program} (w : World)
theorem run_append_any (base : Nat) (t ty e : TypeId) (i : TypeInfo) (z : Value) (size bytes : Nat) (ht : P.underlying t = some (.slice e)) (hi : P.info? e = some i) (hz : i.zero = some z)
 (hsize : i.size = size) (hby : i.bytes = bytes) (hzs : z.cells.size = size) (hsz : 0 < size)
 (v : Value) (n : Nat) (xs : List Value) (hown : w.ownsRow base e size v n xs)
 (v2 : Value) (m : Nat) (news : List Value) (hr : Reads w size v2 m news) (h1 : ∀ u ∈ news, u.oneCell' = true)
 (h63 : n + m <= maxLen) (hbytes : (n + m) * bytes <= 140737488355328) (hbase : base <= w.heap.size) :
 ∃ v' w', (Builtin.append_ #[t, t] ty #[v, v2]).run P w = .ok v' w' /\ w'.ownsRow base e size v' (n + m) (xs ++ news) /\ w.grownBy w' v.ownBlock := by
 obtain ⟨hl, hm, hr | ⟨h0, b, off, c, rfl, hc, hcm, hx⟩⟩ := hr
 · obtain ⟨rfl, a, c, rfl, ha, hc⟩ := hr
   have hn : news = [] := by rw [Nat.zero_mul] at hl; exact List.eq_nil_of_length_eq_zero hl
   subst hn
   cases a with
   | none =>
    obtain rfl := ha rfl
    exact ⟨v, w, run_append_owned_none (P := P) (w := w) base t ty e i size ht hi v n xs hown, by simpa using hown, World.grownBy.refl _ _⟩
   | some x =>
    obtain ⟨v', w', r1, r2, r3, _⟩ := run_append_own (P := P) w base t ty e i z size bytes ht hi hz hsize hby hzs hsz v n xs hown x 0 c [] (by simp) (by simp) (by simp) h63 hbytes hbase
    exact ⟨v', w', r1, r2, r3⟩
 · obtain ⟨v', w', r1, r2, r3, _⟩ := run_append_own (P := P) w base t ty e i z size bytes ht hi hz hsize hby hzs hsz v n xs hown ⟨b, off, none⟩ m c news hl (fun j u hj => by rw [add_plain]; exact hx j u hj) h1 h63 hbytes hbase
   exact ⟨v', w', r1, r2, r3⟩
theorem wp_append_any {o : Oper} {a : Act} {K : Act -> World -> Prop} {Q : Exit -> Act -> World -> Prop} (s x : Operand) (t : TypeId)
 (ho : o.op = .call { callee := .builtin .append, args := #[s, x], argTypes := #[t, t] })
 (base : Nat) (e : TypeId) (i : TypeInfo) (z : Value) (size bytes : Nat) (ht : P.underlying t = some (.slice e)) (hi : P.info? e = some i) (hz : i.zero = some z)
 (hsize : i.size = size) (hby : i.bytes = bytes) (hzs : z.cells.size = size) (hsz : 0 < size)
 (v : Value) (n : Nat) (xs : List Value) (hs : a.eval s = v) (hown : w.ownsRow base e size v n xs)
 (v2 : Value) (m : Nat) (news : List Value) (hx : a.eval x = v2) (hr : Reads w size v2 m news) (h1 : ∀ u ∈ news, u.oneCell' = true)
 (h63 : n + m <= maxLen) (hbytes : (n + m) * bytes <= 140737488355328) (hbase : base <= w.heap.size)
 (h : ∀ v' w', w'.ownsRow base e size v' (n + m) (xs ++ news) -> w.grownBy w' v.ownBlock -> K (a.put o.dst v') w') : o.wp P a w K Q := by
 obtain ⟨v', w', hr, h2, h3⟩ := run_append_any (P := P) w base t o.type e i z size bytes ht hi hz hsize hby hzs hsz v n xs hown v2 m news hr h1 h63 hbytes hbase
 unfold Oper.wp execOp
 simp only [ho, resolve, invoke, builtin, Sem.run_bind, Sem.run_pure, Result.andThen_ok, List.map_toArray, List.map_cons, List.map_nil, hs, hx, hr]
 exact h v' w' h2 h3
theorem wpList_append_any {ops : Array Oper} {rest : List Oper} {o : Oper} {a : Act} {Q : Exit -> Act -> World -> Prop} (hgd : o.guard = none) (s x : Operand) (t : TypeId)
 (ho : o.op = .call { callee := .builtin .append, args := #[s, x], argTypes := #[t, t] })
 (base : Nat) (e : TypeId) (i : TypeInfo) (z : Value) (size bytes : Nat) (ht : P.underlying t = some (.slice e)) (hi : P.info? e = some i) (hz : i.zero = some z)
 (hsize : i.size = size) (hby : i.bytes = bytes) (hzs : z.cells.size = size) (hsz : 0 < size)
 (v : Value) (n : Nat) (xs : List Value) (hs : a.eval s = v) (hown : w.ownsRow base e size v n xs)
 (v2 : Value) (m : Nat) (news : List Value) (hx : a.eval x = v2) (hr : Reads w size v2 m news) (h1 : ∀ u ∈ news, u.oneCell' = true)
 (h63 : n + m <= maxLen) (hbytes : (n + m) * bytes <= 140737488355328) (hbase : base <= w.heap.size)
 (h : ∀ v' w', w'.ownsRow base e size v' (n + m) (xs ++ news) -> w.grownBy w' v.ownBlock -> wpList P ops Q rest (a.put o.dst v') w') : wpList P ops Q (o :: rest) a w :=
 wpList_plain hgd fun _ hK => wp_append_any w s x t ho base e i z size bytes ht hi hz hsize hby hzs hsz v n xs hs hown v2 m news hx hr h1 h63 hbytes hbase fun v' w' h2 h3 => hK _ _ (h v' w' h2 h3)
end
def zeros (z : Value) (n : Nat) : Array Value := (List.replicate n z).toArray
theorem zeros_size (z : Value) (n : Nat) : (zeros z n).size = n := by simp [zeros]
theorem madeCells_one (z : Value) (n : Nat) : madeCells #[z] n = zeros z n := by
 unfold madeCells zeros
 apply Array.ext
 · simp
 · intro i h1 h2
   simp at h1
   simp [Nat.mod_one]
theorem run_make_zeros {P : Program} (t e : TypeId) (i : TypeInfo) (z : Value) (bytes : Nat) (ht : P.underlying t = some (.slice e)) (hi : P.info? e = some i) (hz : i.zero = some z)
 (h1 : i.size = 1) (hb : i.bytes = bytes) (hc : z.cells = #[z]) (n : Nat) (hbytes : bytes * n <= 281474976710656) (h63 : n <= 9223372036854775807) (w : World) :
 (Instr.makeSlice t (.int .i64 (n : Int)) (.int .i64 (n : Int))).run P w = .ok (.slice (some ⟨w.heap.size, 0, none⟩) n n) (w.alloc (.cells (zeros z n) e)) := by
 have hb' : (i.bytes : Int) * (n : Int) <= 281474976710656 := by
  have h : ((i.bytes * n : Nat) : Int) <= 281474976710656 := by rw [hb]; omega
  rwa [Int.natCast_mul] at h
 have hr := run_make (P := P) w t e i z ht hi hz .i64 .i64 n n (by omega) (by omega) hb' (by omega)
 simp only [Int.toNat_natCast, h1, Nat.mul_one, hc, madeCells_one] at hr
 exact hr
theorem wp_copy_any {P : Program} {w : World} {o : Oper} {a : Act} {K : Act -> World -> Prop} {Q : Exit -> Act -> World -> Prop} (d s : Operand) (dT sT : TypeId)
 (ho : o.op = .call { callee := .builtin .copy, args := #[d, s], argTypes := #[dT, sT] }) (elem : TypeId) (hu : P.underlying dT = some (.slice elem)) (hsz : (P.info? elem).map (·.size) = some 1)
 (dp : Option Addr) (dLen dCap : Nat) (hd : a.eval d = .slice dp dLen dCap) (v2 : Value) (hs : a.eval s = v2) (m : Nat) (news : List Value) (hr : Reads w 1 v2 m news) (h1 : ∀ v ∈ news, v.oneCell' = true)
 (g off : Nat) (cur : Array Value) (t : TypeId) (hg : Blk w g cur t) (hpos : 0 < Nat.min m dLen -> dp = some ⟨g, off, none⟩) (hfit : off + Nat.min m dLen <= cur.size)
 (h : ∀ w', Blk w' g (splice cur.toList off (news.take (Nat.min m dLen))).toArray t -> Chg [g] w w' -> K (a.put o.dst (goInt (Nat.min m dLen))) w') : o.wp P a w K Q := by
 obtain ⟨hl, hm, hcase⟩ := hr
 have hl' : news.length = m := by omega
 have hlen : (news.take (Nat.min m dLen)).length = Nat.min m dLen := by rw [List.length_take, hl']; exact Nat.min_eq_left (Nat.min_le_left _ _)
 by_cases h0 : Nat.min m dLen = 0
 · have hv : ∃ sp sc, v2 = .slice sp m sc := by
    rcases hcase with ⟨rfl, a, c, rfl, _⟩ | ⟨_, b, off, c, rfl, _⟩ <;> exact ⟨_, _, rfl⟩
   obtain ⟨sp, sc, rfl⟩ := hv
   have hrun := run_copy_none (P := P) w dT sT o.type elem dp sp dLen dCap m sc hu hsz h0
   unfold Oper.wp
   simp [execOp, ho, resolve, invoke, builtin, hd, hs, hrun, Result.andThen]
   have := h w (by rw [h0]; simpa [splice] using hg) (Chg.refl _ _)
   rw [h0] at this
   exact this
 · obtain rfl := hpos (by omega)
   rcases hcase with ⟨rfl, _⟩ | ⟨_, b, o2, c, rfl, hn, hc, hx⟩
   · exact absurd (Nat.zero_min dLen) h0
   · have hrun := run_copy_row (P := P) w dT sT o.type elem g off dLen dCap ⟨b, o2, none⟩ m c cur t (news.take (Nat.min m dLen)) hu hsz hg (by rw [hlen]) (fun j v hj => by
      rw [add_plain]
      refine hx j v ?_
      rw [List.getElem?_take] at hj
      split at hj
      · exact hj
      · cases hj) (by rw [hlen]; exact hfit) (fun v hv => h1 v (List.mem_of_mem_take hv))
     unfold Oper.wp
     simp only [execOp, ho, resolve, invoke, builtin, Sem.run_bind, Sem.run_pure, Result.andThen_ok, List.map_toArray, List.map_cons, List.map_nil, hd, hs, hrun]
     have hw : Chg [g] w (w.setRow g (cur.toList.take off ++ (news.take (Nat.min m dLen) ++ cur.toList.drop (off + (news.take (Nat.min m dLen)).length))).toArray) :=
      ⟨rfl, rfl, rfl, by simp [World.setRow], fun k hk hn => setRow_other w g k _ (by simpa using hn)⟩
     have := h _ (show Blk _ _ _ _ from setRow_heap w g _ _ t _ hg) hw
     rw [hlen]
     have e : List.take off cur.toList ++ List.take (Nat.min m dLen) news ++ List.drop (off + Nat.min m dLen) cur.toList = splice cur.toList off (news.take (Nat.min m dLen)) := by
      rw [List.append_assoc]; unfold splice; rw [hlen]
     rw [e]
     exact this
theorem wpList_copy_any {P : Program} {w : World} {ops : Array Oper} {rest : List Oper} {o : Oper} {a : Act} {Q : Exit -> Act -> World -> Prop} (hgd : o.guard = none) (d s : Operand) (dT sT : TypeId)
 (ho : o.op = .call { callee := .builtin .copy, args := #[d, s], argTypes := #[dT, sT] }) (elem : TypeId) (hu : P.underlying dT = some (.slice elem)) (hsz : (P.info? elem).map (·.size) = some 1)
 (dp : Option Addr) (dLen dCap : Nat) (hd : a.eval d = .slice dp dLen dCap) (v2 : Value) (hs : a.eval s = v2) (m : Nat) (news : List Value) (hr : Reads w 1 v2 m news) (h1 : ∀ v ∈ news, v.oneCell' = true)
 (g off : Nat) (cur : Array Value) (t : TypeId) (hg : Blk w g cur t) (hpos : 0 < Nat.min m dLen -> dp = some ⟨g, off, none⟩) (hfit : off + Nat.min m dLen <= cur.size)
 (h : ∀ w', Blk w' g (splice cur.toList off (news.take (Nat.min m dLen))).toArray t -> Chg [g] w w' -> wpList P ops Q rest (a.put o.dst (goInt (Nat.min m dLen))) w') : wpList P ops Q (o :: rest) a w :=
 wpList_plain hgd fun _ hK => wp_copy_any d s dT sT ho elem hu hsz dp dLen dCap hd v2 hs m news hr h1 g off cur t hg hpos hfit fun w' h2 h3 => hK _ _ (h w' h2 h3)
theorem wp_region_tail {P : Program} {id : Nat} {Q : Exit -> Act -> World -> Prop} {a : Act} {w : World} {l : List Oper} (n : Nat) (hm : P.follows .mixedOrders = true) (hB : Region.lexTailB .any l.toArray n = true)
 (h : ∀ W : World, Hid (W = w.drew) -> wpStill P l.toArray W (fun a' => wpList P l.toArray Q (l.drop n) a' W) (l.take n) a) : (Code.region id l.toArray true).wp P Q a w :=
 wp_region_still_tail n hm hB (h w.drew (hid rfl))
end Go.Proofs.YtphfnjcboellhaaGreatDoor.kit
