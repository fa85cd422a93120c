import Derived.Test.YtphfnjcboellhaaGreatDoorMemo
import Derived.Test.YtphfnjcboellhaaGreatDoorRopA
import Derived.Test.YtphfnjcboellhaaGreatDoorPlans
namespace Go.Proofs.YtphfnjcboellhaaGreatDoor.core
open Go Go.RowKit kit mem
set_option maxRecDepth 20000
structure Core where
 k : Int
 w : Int
 s : Int
 c : Int
 st : Int
 ia : Option Addr
 il : Nat
 ic : Nat
 wr : Int
 ra : Option Addr
 rl : Nat
 rc : Nat
 op : Int
 reader : Int
 phase : Int
 i : Int
 tries : Int
 a : Int
 b : Int
 used : Int
 m : Value
 base : Int
 size : Int
 code : Int
 steps : Int
 over : Bool
def Core.cells (x : Core) (v : Value) : Array Value := #[.int .i64 x.k, .int .i64 x.w, .int .i64 x.s, .int .i64 x.c, .int .u32 x.st, .slice x.ia x.il x.ic, .int .i64 x.wr, .slice x.ra x.rl x.rc, .int .i64 x.op, .int .i64 x.reader, .int .i64 x.phase, .int .i64 x.i, .int .i64 x.tries, .int .u32 x.a, .int .u32 x.b, .int .u64 x.used, v, x.m, .int .i64 x.base, .int .i64 x.size, .int .i64 x.code, .int .i64 x.steps, .bool x.over]
structure Pair (T : TypeId) (bx mb : Nat) (sv : Value) (W : World) (x : Core) (v : Value) (rec ws : List Int) (n : Int) : Prop where
 box : Blk W bx (x.cells v) T
 row : OwnW W 0 v rec
 wf : ∀ z ∈ rec, (Lit.int .u32 z).wf = true
 short : rec.length <= 1000
 mem : MemAt W mb sv ws n
 ne : bx ≠ mb
 ns : ∀ y, sv.ownBlock = some y -> y ≠ bx
 nv : ∀ y, v.ownBlock = some y -> y ≠ bx /\ y ≠ mb /\ sv.ownBlock ≠ some y
structure Ev (bx mb : Nat) (sv : Value) (W0 : World) (r0 : Value) (W : World) (v : Value) : Prop where
 chg : Chg (bx :: mb :: (sv.ownBlock.toList ++ r0.ownBlock.toList)) W0 W
 own : ∀ y, v.ownBlock = some y -> r0.ownBlock = some y \/ W0.heap.size <= y
theorem Ev.refl (bx mb : Nat) (sv : Value) (W0 : World) (r0 : Value) : Ev bx mb sv W0 r0 W0 r0 := ⟨Chg.refl _ _, fun y h => .inl h⟩
def St (T : TypeId) (bx mb : Nat) (sv : Value) (W0 : World) (r0 : Value) (W : World) (x : Core) (rec ws : List Int) (n : Int) : Prop :=
 ∃ v, Pair T bx mb sv W x v rec ws n /\ Ev bx mb sv W0 r0 W v
section
variable {T : TypeId} {bx mb : Nat} {sv r0 v : Value} {W0 W W' : World} {x x' : Core} {rec ws : List Int} {n : Int}
theorem Pair.keep (h : Pair T bx mb sv W x v rec ws n) (k : Chg [] W W') : Pair T bx mb sv W' x v rec ws n :=
 ⟨h.box.keep k (by simp), mem.own_chg h.row k (by simp), h.wf, h.short, h.mem.fresh k, h.ne, h.ns, h.nv⟩
theorem Pair.put (h : Pair T bx mb sv W x v rec ws n) (o : Nat) (u : Value) (hx : (x.cells v).setIfInBounds o u = x'.cells v) : Pair T bx mb sv (W.setCell ⟨bx, o, none⟩ u) x' v rec ws n :=
 ⟨by rw [<- hx]; exact h.box.set o u, mem.own_chg h.row ((Chg.refl [bx] W).setCell (.inl (by simp)) _) (fun y hy => by simp; exact (h.nv y hy).1), h.wf, h.short,
  h.mem.keep ((Chg.refl [bx] W).setCell (p := ⟨bx, o, none⟩) (.inl (by simp)) u) (by simp; exact h.ne.symm) (fun y hy => by simp; exact h.ns y hy), h.ne, h.ns, h.nv⟩
theorem St.keep (h : St T bx mb sv W0 r0 W x rec ws n) (k : Chg [] W W') : St T bx mb sv W0 r0 W' x rec ws n := by
 obtain ⟨v, hp, he⟩ := h
 exact ⟨v, hp.keep k, he.chg.fresh k, he.own⟩
theorem St.put (h : St T bx mb sv W0 r0 W x rec ws n) (o : Nat) (u : Value) (x' : Core) (hx : ∀ v, (x.cells v).setIfInBounds o u = x'.cells v) : St T bx mb sv W0 r0 (W.setCell ⟨bx, o, none⟩ u) x' rec ws n := by
 obtain ⟨v, hp, he⟩ := h
 exact ⟨v, hp.put o u (hx v), he.chg.setCell (.inl (by simp)) _, he.own⟩
theorem St.nil (h : St T bx mb sv W0 r0 W x rec ws n) : St T bx mb sv W0 r0 (W.setCell ⟨bx, 16, none⟩ (.slice none 0 0)) x [] ws n := by
 obtain ⟨v, hp, he⟩ := h
 refine ⟨.slice none 0 0, ⟨hp.box.set 16 _, ⟨by simp, .inl ⟨rfl, rfl⟩⟩, by simp, by simp, ?_, hp.ne, hp.ns, fun y hy => by cases hy⟩, he.chg.setCell (.inl (by simp)) _, fun y hy => by cases hy⟩
 exact hp.mem.keep ((Chg.refl [bx] W).setCell (p := ⟨bx, 16, none⟩) (.inl (by simp)) _) (by simp; exact hp.ne.symm) (fun y hy => by simp; exact hp.ns y hy)
theorem St.cell (h : St T bx mb sv W0 r0 W x rec ws n) (o : Nat) (u : Value) (hx : ∀ v, (x.cells v)[o]? = some u) : W.cell? ⟨bx, o, none⟩ = some u := by
 obtain ⟨v, hp, he⟩ := h
 exact hp.box.cell (hx v)
theorem St.free (h : St T bx mb sv W0 r0 W x rec ws n) (o : Nat) : W.frozen? ⟨bx, o, none⟩ = false := by
 obtain ⟨v, hp, he⟩ := h
 exact hp.box.free o
theorem St.rowc (h : St T bx mb sv W0 r0 W x rec ws n) : ∃ a c, W.cell? ⟨bx, 16, none⟩ = some (.slice a rec.length c) := by
 obtain ⟨v, hp, he⟩ := h
 obtain ⟨a, c, rfl, _⟩ := reads_slice (Reads.of_own hp.row (by decide))
 exact ⟨a, c, hp.box.cell rfl⟩
theorem St.start (h : Pair T bx mb sv W x v rec ws n) : St T bx mb sv W v W x rec ws n := ⟨v, h, Ev.refl _ _ _ _ _⟩
theorem St.memory (h : St T bx mb sv W0 r0 W x rec ws n) : MemAt W mb sv ws n := by
 obtain ⟨v, hp, he⟩ := h; exact hp.mem
theorem St.byMem (h : St T bx mb sv W0 r0 W x rec ws n) {ws' : List Int} {n' : Int} (k : Chg (mb :: sv.ownBlock.toList) W W') (hm : MemAt W' mb sv ws' n') : St T bx mb sv W0 r0 W' x rec ws' n' := by
 obtain ⟨v, hp, he⟩ := h
 have hb : bx ∉ (mb :: sv.ownBlock.toList) := by simp; exact ⟨hp.ne, fun hh => hp.ns bx hh rfl⟩
 refine ⟨v, ⟨hp.box.keep k hb, mem.own_chg hp.row k (fun y hy => by simp; exact ⟨(hp.nv y hy).2.1, (hp.nv y hy).2.2⟩), hp.wf, hp.short, hm, hp.ne, hp.ns, hp.nv⟩, ?_, he.own⟩
 exact he.chg.trans (k.mono (by intro z hz; simp at hz ⊢; rcases hz with hz | hz <;> simp [hz]))
end
theorem Go_any {T : TypeId} {bx mb : Nat} {sv r0 : Value} {W0 W : World} {x : Core} {rec ws : List Int} {n : Int} (r : Int) (h : St T bx mb sv W0 r0 W x rec ws n) :
 Calls Tryz.prog 128 #[.pointer (some ⟨bx, 0, none⟩), .int .i64 r] W fun e W' => e = .returned (.tuple #[]) /\ St T bx mb sv W0 r0 W' { x with phase := r, i := 0 } rec ws n := by
 have H := hid h
 have e10 : W.cell? ⟨bx, 10, none⟩ = some (.int .i64 x.phase) := H.out.cell 10 _ (fun _ => rfl)
 have e11 : W.cell? ⟨bx, 11, none⟩ = some (.int .i64 x.i) := H.out.cell 11 _ (fun _ => rfl)
 have f10 := H.out.free 10
 have f11 := H.out.free 11
 clear h
 go_enter Tryz.func128, Tryz.ntmps128
 go_wp2
 go_end0
 exact ⟨rfl, (H.out.put 10 (.int .i64 r) { x with phase := r } (fun _ => rfl)).put 11 (.int .i64 0) { x with phase := r, i := 0 } (fun _ => rfl)⟩
theorem Each_any {T : TypeId} {bx mb : Nat} {sv r0 : Value} {W0 W : World} {x : Core} {rec ws : List Int} {n : Int} (r : Int) (hi : 0 <= x.i /\ x.i <= 1000000) (h : St T bx mb sv W0 r0 W x rec ws n) :
 Calls Tryz.prog 137 #[.pointer (some ⟨bx, 0, none⟩), .int .i64 r] W fun e W' => e = .returned (.bool (decide (r <= x.i + 1))) /\ St T bx mb sv W0 r0 W' { x with i := x.i + 1 } rec ws n := by
 have H := hid h
 have e11 : W.cell? ⟨bx, 11, none⟩ = some (.int .i64 x.i) := H.out.cell 11 _ (fun _ => rfl)
 have f11 := H.out.free 11
 clear h
 go_enter Tryz.func137, Tryz.ntmps137
 go_wp2
 go_ret
 exact ⟨rfl, H.out.put 11 (.int .i64 (x.i + 1)) { x with i := x.i + 1 } (fun _ => rfl)⟩
theorem Ended_any {T : TypeId} {bx mb : Nat} {sv r0 : Value} {W0 W : World} {x : Core} {rec ws : List Int} {n : Int} (h : St T bx mb sv W0 r0 W x rec ws n) :
 Calls Tryz.prog 117 #[.pointer (some ⟨bx, 0, none⟩)] W fun e W' => e = .returned (.bool x.over) /\ W = W' := by
 have e22 : W.cell? ⟨bx, 22, none⟩ = some (.bool x.over) := h.cell 22 _ (fun _ => rfl)
 clear h
 go_enter Tryz.func117, Tryz.ntmps117
 go_wp2
 go_ret
 exact ⟨rfl, rfl⟩
def wkind (op : Int) : Bool := decide (op = 2 \/ op = 3)
def endRec (op cd : Int) (rec : List Int) : List Int := if cd ≠ 0 \/ op = 2 \/ op = 3 then [] else rec
set_option maxHeartbeats 1000000 in
theorem End_any {T : TypeId} {bx mb : Nat} {sv r0 : Value} {W0 W : World} {x : Core} {rec ws : List Int} {n : Int} (cd : Int) (h : St T bx mb sv W0 r0 W x rec ws n) :
 Calls Tryz.prog 132 #[.pointer (some ⟨bx, 0, none⟩), .int .i64 cd] W fun e W' => e = .returned (.tuple #[]) /\ St T bx mb sv W0 r0 W' { x with over := true, code := cd } (endRec x.op cd rec) ws n := by
 have H := hid h
 have e22 : W.cell? ⟨bx, 22, none⟩ = some (.bool x.over) := H.out.cell 22 _ (fun _ => rfl)
 have e20 : W.cell? ⟨bx, 20, none⟩ = some (.int .i64 x.code) := H.out.cell 20 _ (fun _ => rfl)
 have e8 : W.cell? ⟨bx, 8, none⟩ = some (.int .i64 x.op) := H.out.cell 8 _ (fun _ => rfl)
 obtain ⟨ra, rcap, e16⟩ := H.out.rowc
 have f22 := H.out.free 22
 have f20 := H.out.free 20
 have f16 := H.out.free 16
 have HN : Hid (St T bx mb sv W0 r0 ((W.setCell ⟨bx, 22, none⟩ (.bool true)).setCell ⟨bx, 20, none⟩ (.int .i64 cd)) { x with over := true, code := cd } rec ws n) := hid ((H.out.put 22 (.bool true) { x with over := true } (fun _ => rfl)).put 20 (.int .i64 cd) { x with over := true, code := cd } (fun _ => rfl))
 obtain ⟨rr, hrr⟩ : ∃ rr, endRec x.op cd rec = rr := ⟨_, rfl⟩
 rw [hrr]
 have HRR := hid hrr
 clear hrr
 clear h H
 by_cases hc : cd = 0
 · subst hc
   by_cases h2 : x.op = 2
   · rw [h2] at e8
     have HRR2 : Hid (rr = []) := hid (by rw [<- HRR.out]; simp [endRec, h2])
     clear h2
     go_enter Tryz.func132, Tryz.ntmps132
     go_wp2
     go_end0
     exact ⟨rfl, by rw [HRR2.out]; exact HN.out.nil⟩
   · by_cases h3 : x.op = 3
     · rw [h3] at e8
       have HRR2 : Hid (rr = []) := hid (by rw [<- HRR.out]; simp [endRec, h3])
       clear h2 h3
       go_enter Tryz.func132, Tryz.ntmps132
       go_wp2
       go_end0
       exact ⟨rfl, by rw [HRR2.out]; exact HN.out.nil⟩
     · have HRR2 : Hid (rr = rec) := hid (by rw [<- HRR.out]; simp [endRec, h2, h3])
       have b2 : (x.op == 2) = false := by simpa using h2
       have b3 : (x.op == 3) = false := by simpa using h3
       clear h2 h3
       go_enter Tryz.func132, Tryz.ntmps132
       go_wp2
       go_end0
       exact ⟨rfl, by rw [HRR2.out]; exact HN.out⟩
 · have HRR2 : Hid (rr = []) := hid (by rw [<- HRR.out]; simp [endRec, hc])
   have b2 : (cd != 0) = true := by simp [hc]
   have b3 : (cd == 0) = false := by simp [hc]
   clear hc
   go_enter Tryz.func132, Tryz.ntmps132
   go_wp2
   go_end0
   exact ⟨rfl, by rw [HRR2.out]; exact HN.out.nil⟩
theorem rd {W : World} {mb : Nat} {sv : Value} {ws : List Int} {n : Int} (i : Nat) (h : MemAt W mb sv ws n) (hi : i < ws.length) (hn : 0 <= n /\ n <= 1000000) :
 Calls Tryz.prog 150 #[.pointer (some ⟨mb, 0, none⟩), .int .i64 i] W fun e w' => e = .returned (.tuple #[.int .u32 (ws.getD i 0), .int .i64 0]) /\ MemAt w' mb sv ws (n + 1) /\ Chg (mb :: sv.ownBlock.toList) W w' := by
 obtain ⟨g, c, rfl⟩ := h.live (by omega)
 exact (Read_ok mb g c ws n i W h hi (by omega) (by omega)).mono (by rintro e w' ⟨h1, h2, h3⟩; exact ⟨h1, h2, h3.mono (by simp)⟩)
theorem u32_wf {u : Int} (h : 0 <= u /\ u <= 4294967295) : (Lit.int .u32 u).wf = true := by simp [Lit.wf, IntKind.min, IntKind.max, IntKind.signed, IntKind.bits]; omega
theorem wrt {W : World} {mb : Nat} {sv : Value} {ws : List Int} {n : Int} (i : Nat) (u : Int) (h : MemAt W mb sv ws n) (hi : i < ws.length) (hn : 0 <= n /\ n <= 1000000) (hu : 0 <= u /\ u <= 4294967295) :
 Calls Tryz.prog 151 #[.pointer (some ⟨mb, 0, none⟩), .int .i64 i, .int .u32 u] W fun e w' => e = .returned (.int .i64 0) /\ MemAt w' mb sv (ws.set i u) (n + 1) /\ Chg (mb :: sv.ownBlock.toList) W w' := by
 obtain ⟨g, c, rfl⟩ := h.live (by omega)
 exact (Write_ok mb g c ws n i u W h hi (by omega) (by omega) (u32_wf hu)).mono (by rintro e w' ⟨h1, h2, h3⟩; exact ⟨h1, h2, h3.mono (by simp [Value.ownBlock])⟩)
theorem lenm {W : World} {mb : Nat} {sv : Value} {ws : List Int} {n : Int} (h : MemAt W mb sv ws n) :
 Calls Tryz.prog 126 #[.pointer (some ⟨mb, 0, none⟩)] W fun e w' => e = .returned (.int .i64 ws.length) /\ Chg [] W w' := (Len_any mb sv ws n W h).mono (by rintro e w' ⟨h1, rfl⟩; exact ⟨h1, Chg.refl _ _⟩)
set_option maxHeartbeats 2000000 in
theorem Read_at {T : TypeId} {bx mb : Nat} {sv r0 : Value} {W0 W : World} {x : Core} {rec ws : List Int} {n : Int} (bN j : Nat) (hm : x.m = .pointer (some ⟨mb, 0, none⟩)) (hb : x.base = (bN : Int)) (hj : bN + j < ws.length) (hn : 0 <= n /\ n <= 1000000) (h : St T bx mb sv W0 r0 W x rec ws n) :
 Calls Tryz.prog 127 #[.pointer (some ⟨bx, 0, none⟩), .int .i64 (j : Int)] W fun e W' => e = .returned (.int .u32 (ws.getD (bN + j) 0)) /\ St T bx mb sv W0 r0 W' x rec ws (n + 1) /\ MemAt W' mb sv ws (n + 1) /\ Chg (mb :: sv.ownBlock.toList) W W' := by
 have H := hid h
 have hadd : IntKind.i64.wrap ((bN : Int) + (j : Int)) = ((bN + j : Nat) : Int) := by
  have hlen : bN + j <= 4096 := by have := h.memory.short; omega
  rw [IntKind.wrap_i64]; omega
 have HADD := hid hadd
 have NB : Hid (bx ∉ (mb :: sv.ownBlock.toList)) := hid (by obtain ⟨v, hp, he⟩ := h; simp; exact ⟨hp.ne, fun hh => hp.ns bx hh rfl⟩)
 have e17 : W.cell? ⟨bx, 17, none⟩ = some (.pointer (some ⟨mb, 0, none⟩)) := by rw [<- hm]; exact H.out.cell 17 _ (fun _ => rfl)
 have e18 : W.cell? ⟨bx, 18, none⟩ = some (.int .i64 (bN : Int)) := by rw [<- hb]; exact H.out.cell 18 _ (fun _ => rfl)
 have KEEP := hid (fun (V : World) (h : Chg (mb :: sv.ownBlock.toList) W V) => (⟨h.keep e17 NB.out, h.keep e18 NB.out, hid h⟩ : (fun V : World => V.cell? ⟨bx, 17, none⟩ = some (.pointer (some ⟨mb, 0, none⟩)) /\ V.cell? ⟨bx, 18, none⟩ = some (.int .i64 (bN : Int)) /\ Hid (Chg (mb :: sv.ownBlock.toList) W V)) V))
 have HJ := hid hj
 have HN := hid hn
 clear h hm hb e17 e18 hj hn hadd
 go_enter Tryz.func127, Tryz.ntmps127
 go_wp2_with fail
 have hHeld : (fun V : World => V.cell? ⟨bx, 17, none⟩ = some (.pointer (some ⟨mb, 0, none⟩)) /\ V.cell? ⟨bx, 18, none⟩ = some (.int .i64 (bN : Int)) /\ Hid (Chg (mb :: sv.ownBlock.toList) W V)) (World.drew W) := KEEP.out _ (Chg.refl _ _).drew
 refine wp_region_plan (fun V : World => V.cell? ⟨bx, 17, none⟩ = some (.pointer (some ⟨mb, 0, none⟩)) /\ V.cell? ⟨bx, 18, none⟩ = some (.int .i64 (bN : Int)) /\ Hid (Chg (mb :: sv.ownBlock.toList) W V)) [(0, true, some 8), (1, true, some 9), (2, true, some 10), (3, true, some 11), (4, true, some 12), (5, true, some 13), (6, true, some 14), (7, true, some 15), (8, true, some 16), (9, true, some 17), (10, false, some 18), (11, true, some 7), (12, true, some 19), (13, true, some 20), (14, true, some 5), (15, true, some 6)] (by kernel_rfl) (by kernel_rfl) (by kernel_rfl) (by kernel_rfl) (fun d c a v w h => by cases d <;> exact h) hHeld ?_
 repeat (first
  | (refine planWp_read (v := ?_) rfl rfl ?_ ?_ ?_; rotate_left; (focus rfl); (focus (intro u hSw; (try dsimp only at hSw); go_simp; (try with_reducible rfl))); (try simp only [Act.put, sA, sB, sC]))
  | (refine planWp_skip rfl rfl ?_ ?_; (focus rfl); (try simp only [Act.put, sA, sB, sC]))
  | (refine planWp_leave rfl rfl ?_ hHeld ?_; (focus rfl); (try simp only [Act.put, sA, sB, sC]))
  | (refine planWp_do rfl rfl ?_ (fun K hK => ?_); (focus rfl); go_simp; (try go_wp2_with (go_at_call 150; rw [HADD.out]; refine (rd (bN + j) (H.out.memory.fresh (Chg.refl _ _).drew) HJ.out HN.out).mono ?_; rintro e w1 ⟨rfl, hx⟩; have HX := hid hx; clear hx)); refine hK.out _ _ ?_ (fun hHeld2 => ?_); (focus (exact KEEP.out _ (Chg.trans hHeld.2.2.out HX.out.2))); clear hK K hHeld; have hHeld := hHeld2; clear hHeld2; (try simp only [Act.put, sA, sB, sC])))
 refine planWp_nil ?_
 have HE := hid hHeld.2.2.out
 clear hHeld KEEP
 go_wp2_with fail
 go_ret
 exact ⟨rfl, H.out.byMem HE.out HX.out.1, HX.out.1, HE.out⟩
set_option maxHeartbeats 2000000 in
theorem Write_at {T : TypeId} {bx mb : Nat} {sv r0 : Value} {W0 W : World} {x : Core} {rec ws : List Int} {n : Int} (bN j : Nat) (u : Int) (hu : 0 <= u /\ u <= 4294967295) (hm : x.m = .pointer (some ⟨mb, 0, none⟩)) (hb : x.base = (bN : Int)) (hj : bN + j < ws.length) (hn : 0 <= n /\ n <= 1000000) (h : St T bx mb sv W0 r0 W x rec ws n) :
 Calls Tryz.prog 131 #[.pointer (some ⟨bx, 0, none⟩), .int .i64 (j : Int), .int .u32 u] W fun e W' => e = .returned (.tuple #[]) /\ St T bx mb sv W0 r0 W' x rec (ws.set (bN + j) u) (n + 1) := by
 have H := hid h
 have hadd : IntKind.i64.wrap ((bN : Int) + (j : Int)) = ((bN + j : Nat) : Int) := by
  have hlen : bN + j <= 4096 := by have := h.memory.short; omega
  rw [IntKind.wrap_i64]; omega
 have HADD := hid hadd
 have NB : Hid (bx ∉ (mb :: sv.ownBlock.toList)) := hid (by obtain ⟨v, hp, he⟩ := h; simp; exact ⟨hp.ne, fun hh => hp.ns bx hh rfl⟩)
 have e17 : W.cell? ⟨bx, 17, none⟩ = some (.pointer (some ⟨mb, 0, none⟩)) := by rw [<- hm]; exact H.out.cell 17 _ (fun _ => rfl)
 have e18 : W.cell? ⟨bx, 18, none⟩ = some (.int .i64 (bN : Int)) := by rw [<- hb]; exact H.out.cell 18 _ (fun _ => rfl)
 have KEEP := hid (fun (V : World) (h : Chg (mb :: sv.ownBlock.toList) W V) => (⟨h.keep e17 NB.out, h.keep e18 NB.out, hid h⟩ : (fun V : World => V.cell? ⟨bx, 17, none⟩ = some (.pointer (some ⟨mb, 0, none⟩)) /\ V.cell? ⟨bx, 18, none⟩ = some (.int .i64 (bN : Int)) /\ Hid (Chg (mb :: sv.ownBlock.toList) W V)) V))
 have HJ := hid hj
 have HN := hid hn
 clear h hm hb e17 e18 hj hn hadd
 go_enter Tryz.func131, Tryz.ntmps131
 go_wp2_with fail
 have hHeld : (fun V : World => V.cell? ⟨bx, 17, none⟩ = some (.pointer (some ⟨mb, 0, none⟩)) /\ V.cell? ⟨bx, 18, none⟩ = some (.int .i64 (bN : Int)) /\ Hid (Chg (mb :: sv.ownBlock.toList) W V)) (World.drew W) := KEEP.out _ (Chg.refl _ _).drew
 refine wp_region_plan (fun V : World => V.cell? ⟨bx, 17, none⟩ = some (.pointer (some ⟨mb, 0, none⟩)) /\ V.cell? ⟨bx, 18, none⟩ = some (.int .i64 (bN : Int)) /\ Hid (Chg (mb :: sv.ownBlock.toList) W V)) [(0, true, some 6), (1, true, some 7), (2, true, some 8), (3, true, some 9), (4, true, some 10), (5, true, some 11), (6, true, some 12), (7, true, some 13), (8, true, some 14), (9, true, some 15), (10, true, some 16), (11, false, some 17)] (by kernel_rfl) (by kernel_rfl) (by kernel_rfl) (by kernel_rfl) (fun d c a v w h => by cases d <;> exact h) hHeld ?_
 repeat (first
  | (refine planWp_read (v := ?_) rfl rfl ?_ ?_ ?_; rotate_left; (focus rfl); (focus (intro u hSw; (try dsimp only at hSw); go_simp; (try with_reducible rfl))); (try simp only [Act.put, sA, sB, sC]))
  | (refine planWp_skip rfl rfl ?_ ?_; (focus rfl); (try simp only [Act.put, sA, sB, sC]))
  | (refine planWp_leave rfl rfl ?_ hHeld ?_; (focus rfl); (try simp only [Act.put, sA, sB, sC]))
  | (refine planWp_do rfl rfl ?_ (fun K hK => ?_); (focus rfl); go_simp; (try go_wp2_with (go_at_call 151; rw [HADD.out]; refine (wrt (bN + j) u (H.out.memory.fresh (Chg.refl _ _).drew) HJ.out HN.out hu).mono ?_; rintro e w1 ⟨rfl, hx⟩; have HX := hid hx; clear hx)); refine hK.out _ _ ?_ (fun hHeld2 => ?_); (focus (exact KEEP.out _ (Chg.trans hHeld.2.2.out HX.out.2))); clear hK K hHeld; have hHeld := hHeld2; clear hHeld2; (try simp only [Act.put, sA, sB, sC])))
 refine planWp_nil ?_
 have HE := hid hHeld.2.2.out
 clear hHeld KEEP
 go_wp2_with fail
 go_end0
 exact ⟨rfl, H.out.byMem HE.out HX.out.1⟩
open Go Go.RowKit kit mem rop
def opens (x : Core) (l : Nat) : Bool := !x.over && insB (l : Int) x.base x.size
set_option maxHeartbeats 4000000 in
theorem Open_yes {T : TypeId} {bx mb : Nat} {sv r0 : Value} {W0 W : World} {x : Core} {rec ws : List Int} {n : Int} (hs : 0 <= x.steps /\ x.steps <= 1000000) (ho : opens x ws.length = true) (h : St T bx mb sv W0 r0 W x rec ws n) :
 Calls Tryz.prog 104 #[.pointer (some ⟨bx, 0, none⟩), .pointer (some ⟨mb, 0, none⟩)] W fun e W' => e = .returned (.bool true) /\ St T bx mb sv W0 r0 W' { x with m := .pointer (some ⟨mb, 0, none⟩), steps := x.steps + 1 } rec ws n := by
 have H := hid h
 have HLEN := hid h.memory.short
 simp only [opens, Bool.and_eq_true, Bool.not_eq_true'] at ho
 obtain ⟨hov, hins⟩ := ho
 have HOV := hid hov
 clear h hov
 go_enter Tryz.func104, Tryz.ntmps104
 go_wp2_with fail
 have eS0 : W.cell? ⟨bx, 22, none⟩ = some (.bool false) := by rw [<- HOV.out]; exact H.out.cell 22 _ (fun _ => rfl)
 have eS1 : W.cell? ⟨bx, 18, none⟩ = some (.int .i64 x.base) := H.out.cell 18 _ (fun _ => rfl)
 have eS2 : W.cell? ⟨bx, 19, none⟩ = some (.int .i64 x.size) := H.out.cell 19 _ (fun _ => rfl)
 have KEEP := hid (fun (V : World) (h : Chg [] W V) => (⟨h.keep eS0 (by simp), h.keep eS1 (by simp), h.keep eS2 (by simp), hid h⟩ : (fun V : World => V.cell? ⟨bx, 22, none⟩ = some (.bool false) /\ V.cell? ⟨bx, 18, none⟩ = some (.int .i64 x.base) /\ V.cell? ⟨bx, 19, none⟩ = some (.int .i64 x.size) /\ Hid (Chg [] W V)) V))
 clear eS0 eS1 eS2
 have hHeld : (fun V : World => V.cell? ⟨bx, 22, none⟩ = some (.bool false) /\ V.cell? ⟨bx, 18, none⟩ = some (.int .i64 x.base) /\ V.cell? ⟨bx, 19, none⟩ = some (.int .i64 x.size) /\ Hid (Chg [] W V)) (World.drew W) := KEEP.out _ (Chg.refl _ _).drew
 refine wp_region_plan (fun V : World => V.cell? ⟨bx, 22, none⟩ = some (.bool false) /\ V.cell? ⟨bx, 18, none⟩ = some (.int .i64 x.base) /\ V.cell? ⟨bx, 19, none⟩ = some (.int .i64 x.size) /\ Hid (Chg [] W V)) [(0, true, some 5), (1, true, some 6), (2, true, some 7), (3, true, some 8), (4, true, some 9), (5, true, some 10), (7, true, some 12), (8, true, some 13), (9, true, some 14), (10, true, some 15), (11, true, some 16), (12, true, some 17), (13, true, some 18), (14, true, some 19), (15, true, some 20), (6, false, some 11), (16, false, some 21), (17, true, some 22), (18, true, some 23)] (by kernel_rfl) (by kernel_rfl) (by kernel_rfl) (by kernel_rfl) (fun d c a v w h => by cases d <;> exact h) hHeld ?_
 repeat (first
  | (refine planWp_read (v := ?_) rfl rfl ?_ ?_ ?_; rotate_left; (focus rfl); (focus (intro u hSw; (try dsimp only at hSw); go_simp; (try with_reducible rfl))); (try simp only [Act.put, sA, sB, sC]))
  | (refine planWp_skip rfl rfl ?_ ?_; (focus rfl); (try simp only [Act.put, sA, sB, sC]))
  | (refine planWp_leave rfl rfl ?_ hHeld ?_; (focus rfl); (try simp only [Act.put, sA, sB, sC]))
  | (refine planWp_do rfl rfl ?_ (fun K hK => ?_); (focus rfl); go_simp; (try go_wp2_with (first | (go_at_call 126; refine (lenm (H.out.memory.fresh hHeld.2.2.2.out)).mono ?_; rintro e w1 ⟨rfl, hcx⟩; have HCX := hid hcx; clear hcx) | (go_at_call 50; refine (Inside_any _ _ _ _ (by omega) (by have := HLEN.out; omega)).mono ?_; rintro e w1 ⟨rfl, hcx⟩; have HCX := hid hcx; clear hcx))); refine hK.out _ _ ?_ (fun hHeld2 => ?_); (focus (exact KEEP.out _ (Chg.trans hHeld.2.2.2.out HCX.out))); clear hK K hHeld; have hHeld := hHeld2; clear hHeld2; (try simp only [Act.put, sA, sB, sC])))
 refine planWp_nil ?_
 refine then_gen (R := fun V => Hid (Chg [] W V)) (hid hHeld.2.2.2.out) ?_
 clear hHeld KEEP
 rintro W1 HC1
 have H1 := hid (H.out.keep HC1.out)
 have e21 : W1.cell? ⟨bx, 21, none⟩ = some (.int .i64 x.steps) := H1.out.cell 21 _ (fun _ => rfl)
 have e17 : W1.cell? ⟨bx, 17, none⟩ = some (x.m) := H1.out.cell 17 _ (fun _ => rfl)
 have f21 := H1.out.free 21
 have f17 := H1.out.free 17
 go_wp2_with fail
 go_ret
 exact ⟨rfl, (H1.out.put 17 (.pointer (some ⟨mb, 0, none⟩)) { x with m := .pointer (some ⟨mb, 0, none⟩) } (fun _ => rfl)).put 21 (.int .i64 (x.steps + 1)) { x with m := .pointer (some ⟨mb, 0, none⟩), steps := x.steps + 1 } (fun _ => rfl)⟩
set_option maxHeartbeats 4000000 in
theorem Fail_any {T : TypeId} {bx mb : Nat} {sv r0 : Value} {W0 W : World} {x : Core} {rec ws : List Int} {n : Int} (ht : 0 <= x.tries /\ x.tries <= 1000000) (h : St T bx mb sv W0 r0 W x rec ws n) :
 Calls Tryz.prog 142 #[.pointer (some ⟨bx, 0, none⟩)] W fun e W' => e = .returned (.bool (decide (x.c <= x.tries + 1))) /\ St T bx mb sv W0 r0 W' { x with tries := x.tries + 1, phase := 0, i := 0 } [] ws n := by
 have H := hid h
 have e12 : W.cell? ⟨bx, 12, none⟩ = some (.int .i64 x.tries) := H.out.cell 12 _ (fun _ => rfl)
 have f12 := H.out.free 12
 have f16 := H.out.free 16
 obtain ⟨rca, rcc, e16⟩ := H.out.rowc
 have H1 : Hid (St T bx mb sv W0 r0 ((W.setCell ⟨bx, 12, none⟩ (.int .i64 (x.tries + 1))).setCell ⟨bx, 16, none⟩ (.slice none 0 0)) { x with tries := x.tries + 1 } [] ws n) := hid (H.out.put 12 (.int .i64 (x.tries + 1)) { x with tries := x.tries + 1 } (fun _ => rfl)).nil
 clear h
 obtain ⟨y, hy⟩ : ∃ y, ({ x with tries := x.tries + 1, phase := 0, i := 0 } : Core) = y := ⟨_, rfl⟩
 have HY := hid hy
 have hyt : y.tries = x.tries + 1 := by rw [<- hy]
 have hyc : y.c = x.c := by rw [<- hy]
 rw [hy, ← hyt, ← hyc]
 clear hy
 have HYT := hid hyt
 have HYC := hid hyc
 clear hyc hyt
 go_enter Tryz.func142, Tryz.ntmps142
 go_wp2_with (go_at_call 128; refine (Go_any 0 H1.out).mono ?_; rintro e W2 ⟨rfl, hx⟩; have H2 : Hid (St T bx mb sv W0 r0 W2 y [] ws n) := hid (by rw [<- HY.out]; exact hx); clear hx)
 have eS0 : W2.cell? ⟨bx, 12, none⟩ = some (.int .i64 y.tries) := H2.out.cell 12 _ (fun _ => rfl)
 have eS1 : W2.cell? ⟨bx, 3, none⟩ = some (.int .i64 y.c) := H2.out.cell 3 _ (fun _ => rfl)
 have KEEP := hid (fun (V : World) (h : Chg [] W2 V) => (⟨h.keep eS0 (by simp), h.keep eS1 (by simp), hid h⟩ : (fun V : World => V.cell? ⟨bx, 12, none⟩ = some (.int .i64 y.tries) /\ V.cell? ⟨bx, 3, none⟩ = some (.int .i64 y.c) /\ Hid (Chg [] W2 V)) V))
 clear eS0 eS1
 have hHeld : (fun V : World => V.cell? ⟨bx, 12, none⟩ = some (.int .i64 y.tries) /\ V.cell? ⟨bx, 3, none⟩ = some (.int .i64 y.c) /\ Hid (Chg [] W2 V)) (World.drew W2) := KEEP.out _ (Chg.refl _ _).drew
 refine wp_region_plan (fun V : World => V.cell? ⟨bx, 12, none⟩ = some (.int .i64 y.tries) /\ V.cell? ⟨bx, 3, none⟩ = some (.int .i64 y.c) /\ Hid (Chg [] W2 V)) [(0, true, some 15), (1, true, some 16), (2, true, some 17), (3, true, some 18), (4, true, some 19), (5, true, some 20), (6, true, some 21), (7, true, some 22), (8, true, some 23), (9, true, some 24), (10, true, some 2)] (by kernel_rfl) (by kernel_rfl) (by kernel_rfl) (by kernel_rfl) (fun d c a v w h => by cases d <;> exact h) hHeld ?_
 repeat (first
  | (refine planWp_read (v := ?_) rfl rfl ?_ ?_ ?_; rotate_left; (focus rfl); (focus (intro u hSw; (try dsimp only at hSw); go_simp; (try with_reducible rfl))); (try simp only [Act.put, sA, sB, sC]))
  | (refine planWp_skip rfl rfl ?_ ?_; (focus rfl); (try simp only [Act.put, sA, sB, sC]))
  | (refine planWp_leave rfl rfl ?_ hHeld ?_; (focus rfl); (try simp only [Act.put, sA, sB, sC]))
  | (refine planWp_do rfl rfl ?_ (fun K hK => ?_); (focus rfl); go_simp; (try go_wp2_with fail); refine hK.out _ _ ?_ (fun hHeld2 => ?_); (focus (exact KEEP.out _ (Chg.trans hHeld.2.2.out HCX.out))); clear hK K hHeld; have hHeld := hHeld2; clear hHeld2; (try simp only [Act.put, sA, sB, sC])))
 refine planWp_nil ?_
 have HC := hid hHeld.2.2.out
 clear hHeld KEEP
 go_wp2_with fail
 go_ret
 exact ⟨rfl, H2.out.keep HC.out⟩
set_option maxHeartbeats 4000000 in
theorem Word_write {T : TypeId} {bx mb : Nat} {sv r0 : Value} {W0 W : World} {x : Core} {rec ws : List Int} {n : Int} (bN f iN : Nat) (hop : x.op = 2 \/ x.op = 3) (hm : x.m = .pointer (some ⟨mb, 0, none⟩)) (hb : x.base = (bN : Int)) (hi : x.i = (iN : Int)) (hir : iN < rec.length) (hj : bN + (f + iN) < ws.length) (hn : 0 <= n /\ n <= 1000000) (h : St T bx mb sv W0 r0 W x rec ws n) :
 Calls Tryz.prog 129 #[.pointer (some ⟨bx, 0, none⟩), .int .i64 (f : Int)] W fun e W' => e = .returned (.bool (decide (x.w <= (iN : Int) + 1))) /\ St T bx mb sv W0 r0 W' { x with i := (iN : Int) + 1 } rec (ws.set (bN + (f + iN)) (rec.getD iN 0)) (n + 1) := by
 have H := hid h
 have HI : Hid (0 <= x.i /\ x.i <= 1000000) := hid (by obtain ⟨v, hp, he⟩ := h; have := hp.short; omega)
 have hadd : IntKind.i64.wrap ((f : Int) + (iN : Int)) = ((f + iN : Nat) : Int) := by
  have hlen : bN + (f + iN) <= 4096 := by have := h.memory.short; omega
  rw [IntKind.wrap_i64]; omega
 have hget : rec.getD iN 0 = rec[iN] := by simp [List.getD, hir]
 obtain ⟨rv, hrv⟩ : ∃ rv, rec.getD iN 0 = rv := ⟨_, rfl⟩
 have HU : Hid (0 <= rv /\ rv <= 4294967295) := hid (by
  obtain ⟨v, hp, he⟩ := h
  rw [<- hrv, hget]
  exact wf_u32 (hp.wf _ (List.getElem_mem hir)))
 have hrow : ∃ g cp, W.cell? ⟨bx, 16, none⟩ = some (.slice (some ⟨g, 0, none⟩) rec.length cp) /\ W.cell? ⟨g, iN, none⟩ = some (.int .u32 rv) := by
  obtain ⟨v, hp, he⟩ := h
  rcases hp.row.2 with ⟨h0, h1⟩ | ⟨g, cap, cur, rfl, hbg, hg, hnc, hcm, hcs, htake⟩
  · exfalso; omega
  · refine ⟨g, cap, hp.box.cell rfl, ?_⟩
    have hq := (World.ownsRow.cells (g := g) hp.row rfl) iN (.int .u32 rv) (by rw [List.getElem?_map, List.getElem?_eq_getElem hir, ← hget, hrv]; rfl)
    simpa [add_plain] using hq
 obtain ⟨g, cp, e16, eg⟩ := hrow
 rw [hrv]
 have e11 : W.cell? ⟨bx, 11, none⟩ = some (.int .i64 (iN : Int)) := by rw [<- hi]; exact H.out.cell 11 _ (fun _ => rfl)
 have e1 : W.cell? ⟨bx, 1, none⟩ = some (.int .i64 x.w) := H.out.cell 1 _ (fun _ => rfl)
 have HM := hid hm
 have HB := hid hb
 have HJ := hid hj
 have HN := hid hn
 have HIE := hid hi
 have hin : (iN : Int) < (rec.length : Int) := by omega
 have E16 := hid e16
 have E11 := hid e11
 have EG := hid eg
 have HRV := hid hrv
 clear h hm hb hj hn hi e1 hrv hget hir e16 e11 eg
 have key : ∀ o, x.op = o -> (o = 2 \/ o = 3) -> Calls Tryz.prog 129 #[.pointer (some ⟨bx, 0, none⟩), .int .i64 (f : Int)] W fun e W' => e = .returned (.bool (decide (x.w <= (iN : Int) + 1))) /\ St T bx mb sv W0 r0 W' { x with i := (iN : Int) + 1 } rec (ws.set (bN + (f + iN)) rv) (n + 1) := by
  intro o ho hoo
  have e8 : W.cell? ⟨bx, 8, none⟩ = some (.int .i64 o) := by rw [<- ho]; exact H.out.cell 8 _ (fun _ => rfl)
  clear hop ho
  rcases hoo with rfl | rfl
  all_goals
   go_enter Tryz.func129, Tryz.ntmps129
   go_wp2_with fail
   refine wp_region_tail 17 (by kernel_rfl) (by kernel_rfl) ?_
   intro W3 hW3
   have e11 : W3.cell? ⟨bx, 11, none⟩ = some (.int .i64 (iN : Int)) := by rw [hW3.out]; exact E11.out
   have e16 : W3.cell? ⟨bx, 16, none⟩ = some (.slice (some ⟨g, 0, none⟩) rec.length cp) := by rw [hW3.out]; exact E16.out
   have eg : W3.cell? ⟨g, iN, none⟩ = some (.int .u32 rv) := by rw [hW3.out]; exact EG.out
   have H3 : Hid (St T bx mb sv W0 r0 W3 x rec ws n) := hid (by rw [hW3.out]; exact H.out.keep (Chg.refl _ _).drew)
   clear hW3
   simp only [List.take_succ_cons, List.take_zero, List.drop_succ_cons, List.drop_zero]
   repeat still_step
   refine wpStill_nil ?_
   go_wp2_with (first | (go_at_call 131; refine (Write_at bN (f + iN) rv HU.out HM.out HB.out HJ.out HN.out H3.out).mono ?_; rintro e W4 ⟨rfl, hx⟩; have H4 := hid hx; clear hx; have e1 : W4.cell? ⟨bx, 1, none⟩ = some (.int .i64 x.w) := H4.out.cell 1 _ (fun _ => rfl)) | (go_at_call 137; refine (Each_any _ HI.out H4.out).mono ?_; rintro e W9 ⟨rfl, hx⟩; have HX := hid hx; clear hx))
   go_ret
   rw [<- HIE.out]
   exact ⟨rfl, HX.out⟩
 exact key _ rfl hop
theorem own_lt {W : World} {v : Value} {l : List Int} {y : Nat} (h : OwnW W 0 v l) (hy : v.ownBlock = some y) : y < W.heap.size := by
 rcases h.2 with ⟨rfl, _⟩ | ⟨g, cap, cur, rfl, hbg, hg, _⟩
 · cases hy
 · obtain rfl : g = y := by simpa [Value.ownBlock] using hy
   exact lt_of_block hg
section
variable {T : TypeId} {bx mb : Nat} {sv r0 v v' : Value} {W0 W W' : World} {x x' : Core} {rec ws : List Int} {n : Int}
theorem Pair.byMem (hp : Pair T bx mb sv W x v rec ws n) {ws' : List Int} {n' : Int} (k : Chg (mb :: sv.ownBlock.toList) W W') (hm : MemAt W' mb sv ws' n') : Pair T bx mb sv W' x v rec ws' n' := by
 have hb : bx ∉ (mb :: sv.ownBlock.toList) := by simp; exact ⟨hp.ne, fun hh => hp.ns bx hh rfl⟩
 exact ⟨hp.box.keep k hb, mem.own_chg hp.row k (fun y hy => by simp; exact ⟨(hp.nv y hy).2.1, (hp.nv y hy).2.2⟩), hp.wf, hp.short, hm, hp.ne, hp.ns, hp.nv⟩
theorem St.push (hp : Pair T bx mb sv W x v rec ws n) (he : Ev bx mb sv W0 r0 W v) (hc : Chg v.ownBlock.toList W W') {u : Int} (ho : W'.ownsRow 0 22 1 v' (rec.length + 1) (rec.map (Value.int .u32) ++ [.int .u32 u]))
 (hb : ∀ y, v'.ownBlock = some y -> v.ownBlock = some y \/ W.heap.size <= y) (hu : (Lit.int .u32 u).wf = true) (hl : rec.length + 1 <= 1000) : St T bx mb sv W0 r0 (W'.setCell ⟨bx, 16, none⟩ v') x (rec ++ [u]) ws n := by
 have hbx : bx ∉ v.ownBlock.toList := fun hh => (hp.nv bx (by simpa using hh)).1 rfl
 have hmb : mb ∉ v.ownBlock.toList := fun hh => (hp.nv mb (by simpa using hh)).2.1 rfl
 have hnv : ∀ y, v'.ownBlock = some y -> y ≠ bx /\ y ≠ mb /\ sv.ownBlock ≠ some y := by
  intro y hy
  rcases hb y hy with h1 | h1
  · exact hp.nv y h1
  · have h2 := hp.box.lt
    have h3 := hp.mem.box.lt
    exact ⟨by omega, by omega, fun hh => by have := own_lt hp.mem.row hh; omega⟩
 refine ⟨v', ⟨(hp.box.keep hc hbx).set 16 v', ?_, ?_, by simp; omega, ?_, hp.ne, hp.ns, hnv⟩, ?_, ?_⟩
 · refine mem.own_chg (L := [bx]) ?_ ((Chg.refl [bx] W').setCell (.inl (by simp)) _) (fun y hy => by simp; exact (hnv y hy).1)
   simpa using ho
 · intro z hz
   simp at hz
   rcases hz with hz | rfl
   · exact hp.wf z hz
   · exact hu
 · refine (hp.mem.keep hc hmb (fun y hy hh => (hp.nv y (by simpa using hh)).2.2 hy)).keep ((Chg.refl [bx] W').setCell (p := ⟨bx, 16, none⟩) (.inl (by simp)) v') (by simp; exact hp.ne.symm) (fun y hy => by simp; exact hp.ns y hy)
 · refine (he.chg.into hc fun z hz => ?_).setCell (.inl (by simp)) _
   rcases he.own z (by simpa using hz) with h1 | h1
   · left; simp [h1]
   · exact .inr h1
 · intro y hy
   rcases hb y hy with h1 | h1
   · exact he.own y h1
   · exact .inr (Nat.le_trans he.chg.size h1)
end
set_option maxHeartbeats 4000000 in
theorem Word_read {T : TypeId} {bx mb : Nat} {sv r0 : Value} {W0 W : World} {x : Core} {rec ws : List Int} {n : Int} (bN f iN : Nat) (hop : x.op ≠ 2 /\ x.op ≠ 3) (hm : x.m = .pointer (some ⟨mb, 0, none⟩)) (hb : x.base = (bN : Int)) (hi : x.i = (iN : Int)) (hrl : rec.length < 1000) (hil : iN < 1000) (hj : bN + (f + iN) < ws.length) (hn : 0 <= n /\ n <= 1000000) (h : St T bx mb sv W0 r0 W x rec ws n) :
 Calls Tryz.prog 129 #[.pointer (some ⟨bx, 0, none⟩), .int .i64 (f : Int)] W fun e W' => e = .returned (.bool (decide (x.w <= (iN : Int) + 1))) /\ St T bx mb sv W0 r0 W' { x with i := (iN : Int) + 1 } (rec ++ [ws.getD (bN + (f + iN)) 0]) ws (n + 1) := by
 have hadd : IntKind.i64.wrap ((f : Int) + (iN : Int)) = ((f + iN : Nat) : Int) := by
  have hlen : bN + (f + iN) <= 4096 := by have := h.memory.short; omega
  rw [IntKind.wrap_i64]; omega
 have HI : Hid (0 <= x.i /\ x.i <= 1000000) := hid (by omega)
 obtain ⟨v, hp, he⟩ := h
 have HP := hid hp
 have HE := hid he
 obtain ⟨uv, huv⟩ : ∃ uv, ws.getD (bN + (f + iN)) 0 = uv := ⟨_, rfl⟩
 have HUW : Hid ((Lit.int .u32 uv).wf = true) := hid (by
  have hget : ws.getD (bN + (f + iN)) 0 = ws[bN + (f + iN)] := by simp [List.getD, hj]
  rw [<- huv, hget]
  exact hp.mem.wf _ (List.getElem_mem hj))
 have HUV := hid huv
 rw [huv]
 have NB : Hid (bx ∉ (mb :: (sv.ownBlock.toList ++ v.ownBlock.toList))) := hid (by simp; exact ⟨hp.ne, fun hh => hp.ns bx hh rfl, fun hh => (hp.nv bx hh).1 rfl⟩)
 have e8 : W.cell? ⟨bx, 8, none⟩ = some (.int .i64 x.op) := hp.box.cell rfl
 have b2 : (x.op == 2) = false := by simpa using hop.1
 have b3 : (x.op == 3) = false := by simpa using hop.2
 have HM := hid hm
 have HB := hid hb
 have HJ := hid hj
 have HN := hid hn
 have HRL := hid hrl
 have HIE := hid hi
 obtain ⟨i0, hi0, hz0, hz1, hz2⟩ := info_parts mem.info32
 have eS0 : W.cell? ⟨bx, 16, none⟩ = some (v) := HP.out.box.cell rfl
 have eS1 : W.cell? ⟨bx, 11, none⟩ = some (.int .i64 (iN : Int)) := by rw [<- hi]; exact HP.out.box.cell rfl
 have KEEP := hid (fun (V : World) (h : Chg (mb :: (sv.ownBlock.toList ++ v.ownBlock.toList)) W V) => (⟨h.keep eS0 NB.out, h.keep eS1 NB.out, hid h⟩ : (fun V : World => V.cell? ⟨bx, 16, none⟩ = some (v) /\ V.cell? ⟨bx, 11, none⟩ = some (.int .i64 (iN : Int)) /\ Hid (Chg (mb :: (sv.ownBlock.toList ++ v.ownBlock.toList)) W V)) V))
 clear eS0 eS1
 clear hp he huv hop hm hb hi hrl hil hj hn
 go_enter Tryz.func129, Tryz.ntmps129
 go_wp2_with fail
 have hHeld : (fun V : World => V.cell? ⟨bx, 16, none⟩ = some (v) /\ V.cell? ⟨bx, 11, none⟩ = some (.int .i64 (iN : Int)) /\ Hid (Chg (mb :: (sv.ownBlock.toList ++ v.ownBlock.toList)) W V)) W.drew := KEEP.out _ (Chg.refl _ _).drew
 refine wp_region_planT (fun V : World => V.cell? ⟨bx, 16, none⟩ = some (v) /\ V.cell? ⟨bx, 11, none⟩ = some (.int .i64 (iN : Int)) /\ Hid (Chg (mb :: (sv.ownBlock.toList ++ v.ownBlock.toList)) W V)) 17 [(0, true, some 35), (1, true, some 36), (2, true, some 37), (3, true, some 38), (4, true, some 39), (5, true, some 40), (6, true, some 41), (7, true, some 42), (8, true, some 43), (9, true, some 44), (10, true, some 45), (11, true, some 46), (12, false, some 47), (13, false, some 48), (14, false, some 49), (15, true, some 50), (16, true, some 51)] (by kernel_rfl) (by kernel_rfl) (by kernel_rfl) (by kernel_rfl) (by kernel_rfl) (fun d c a v w h => by cases d <;> exact h) hHeld ?_
 repeat (refine planT_read (v := ?_) rfl rfl ?_ ?_ ?_; rotate_left; (focus rfl); (focus (intro u hSw; (try dsimp only at hSw); go_simp; (try with_reducible rfl))); (try simp only [Act.put, sA, sB, sC]))
 refine planT_do rfl rfl ?_ (fun K hK => ?_)
 · rfl
 go_simp
 go_wp2_with (go_at_call 127; refine (Read_at bN (f + iN) HM.out HB.out HJ.out HN.out (St.start (HP.out.keep (Chg.refl _ _).drew))).mono ?_; rintro e w1 ⟨rfl, hx⟩; rw [HUV.out]; have HX := hid hx; clear hx)
 have HP1 : Hid (Pair T bx mb sv w1 x v rec ws (n + 1)) := hid ((HP.out.keep (Chg.refl _ _).drew).byMem HX.out.2.2 HX.out.2.1)
 have HE1 : Hid (Ev bx mb sv W0 r0 w1 v) := hid ⟨(HE.out.chg.drew).trans (HX.out.2.2.mono (by intro z hz; simp at hz ⊢; rcases hz with hz | hz <;> simp [hz])), HE.out.own⟩
 have HC1 : Hid (Chg (mb :: (sv.ownBlock.toList ++ v.ownBlock.toList)) W w1) := hid ((Chg.refl _ W).drew.trans (HX.out.2.2.mono (by intro z hz; simp at hz ⊢; rcases hz with hz | hz <;> simp [hz])))
 refine hK.out _ _ (KEEP.out _ HC1.out) (fun hHeld2 => ?_)
 clear hK K hHeld HX
 try simp only [Act.put, sA, sB, sC]
 refine planT_do rfl rfl ?_ (fun K hK => ?_)
 · rfl
 go_simp
 refine hK.out _ _ (KEEP.out _ (HC1.out.alloc _)) (fun hHeld3 => ?_)
 clear hK K hHeld2
 try simp only [Act.put, sA, sB, sC]
 refine planT_do rfl rfl ?_ (fun K hK => ?_)
 · rfl
 have HP2 : Hid (Pair T bx mb sv (w1.alloc (.cells #[.int .u32 uv] 22)) x v rec ws (n + 1)) := hid (HP1.out.keep ((Chg.refl _ _).alloc _))
 have HE2 : Hid (Ev bx mb sv W0 r0 (w1.alloc (.cells #[.int .u32 uv] 22)) v) := hid ⟨HE1.out.chg.alloc _, HE1.out.own⟩
 have hb10 : (w1.alloc (.cells #[.int .u32 uv] 22)).cell? ⟨w1.heap.size, 0, none⟩ = some (.int .u32 uv) := (Blk.new w1 #[.int .u32 uv] 22).cell rfl
 refine wp_append_one _ (.tmp 39) (.tmp 48) 23 rfl 0 22 i0 (.int .u32 0) 4 Tryz.underlying23 hi0 hz0 hz1 hz2 rfl v rec.length _ rfl HP2.out.row w1.heap.size (.int .u32 uv) rfl hb10 rfl (by have := HRL.out; unfold maxLen; omega) (by have := HRL.out; omega) (by simp) ?_
 intro v3 w3 hown3 hg3 hb3
 have HC3 : Hid (Chg v.ownBlock.toList (w1.alloc (.cells #[.int .u32 uv] 22)) w3) := hid ((Chg.refl _ _).grown hg3 (fun y hy => .inl (by rw [hy]; simp)))
 have H4 : Hid (St T bx mb sv W0 r0 (w3.setCell ⟨bx, 16, none⟩ v3) x (rec ++ [uv]) ws (n + 1)) := hid (St.push HP2.out HE2.out HC3.out hown3 (fun y hy => by rcases hb3 y hy with hh | hh; exact .inl hh; right; omega) HUW.out (by have := HRL.out; omega))
 have HB3 := hid (HP2.out.box.keep HC3.out (fun hh => (HP2.out.nv bx (by simpa using hh)).1 rfl))
 have HC4 : Hid (Chg (mb :: (sv.ownBlock.toList ++ v.ownBlock.toList)) W w3) := hid ((HC1.out.alloc _).trans (HC3.out.mono (by intro z hz; simp at hz ⊢; simp [hz])))
 obtain ⟨a3, c3, rfl, _⟩ := reads_slice (Reads.of_own hown3 (by decide))
 clear hown3 hg3 hb3 hb10 hHeld3
 refine hK.out _ _ (KEEP.out _ HC4.out) (fun hHeld => ?_)
 clear hK K
 try simp only [Act.put, sA, sB, sC]
 repeat (refine planT_read (v := ?_) rfl rfl ?_ ?_ ?_; rotate_left; (focus rfl); (focus (intro u hSw; (try dsimp only at hSw); go_simp; (try with_reducible rfl))); (try simp only [Act.put, sA, sB, sC]))
 have e16 : w3.cell? ⟨bx, 16, none⟩ = some v := HB3.out.cell rfl
 have f16 := HB3.out.free 16
 refine planT_last rfl ?_ (fun K hK => ?_)
 · rfl
 go_simp
 refine hK.out _ _ ?_
 clear hK K e16 f16 hHeld KEEP
 refine then_gen (R := fun V => Hid (St T bx mb sv W0 r0 V x (rec ++ [uv]) ws (n + 1))) H4 ?_
 rintro W4 H5
 have e1 : W4.cell? ⟨bx, 1, none⟩ = some (.int .i64 x.w) := H5.out.cell 1 _ (fun _ => rfl)
 go_wp2_with (go_at_call 137; refine (Each_any _ HI.out H5.out).mono ?_; rintro e W9 ⟨rfl, hx⟩; have HX := hid hx; clear hx)
 go_ret
 rw [<- HIE.out]
 exact ⟨rfl, HX.out⟩
set_option maxHeartbeats 4000000 in
theorem Told_any {T : TypeId} {bx mb : Nat} {sv v : Value} {W : World} {x : Core} {rec ws : List Int} {n : Int} (h : Pair T bx mb sv W x v rec ws n) :
 Calls Tryz.prog 118 #[.pointer (some ⟨bx, 0, none⟩)] W fun e W' => ∃ v', e = .returned (.tuple #[v', .int .i64 (if x.over then x.code else 0)]) /\ OwnW W' W.heap.size v' (if x.over then rec else []) /\ Chg [] W W' := by
 have HP := hid h
 have HR := hid (OwnW.reads h.row h.wf)
 have HZ : Hid (rec.length <= 1000000) := hid (by have := h.short; omega)
 obtain ⟨ra, rcap, rfl, _⟩ := reads_slice HR.out.1
 clear h
 cases hov : x.over
 · have e22 : W.cell? ⟨bx, 22, none⟩ = some (.bool false) := by rw [<- hov]; exact HP.out.box.cell rfl
   clear hov
   go_enter Tryz.func118, Tryz.ntmps118
   go_wp2_with fail
   go_ret2
   exact ⟨_, rfl, ⟨by simp, .inl ⟨rfl, rfl⟩⟩, Chg.refl _ _⟩
 · have e22 : W.cell? ⟨bx, 22, none⟩ = some (.bool true) := by rw [<- hov]; exact HP.out.box.cell rfl
   clear hov
   go_enter Tryz.func118, Tryz.ntmps118
   go_wp2_with fail
   have eS0 : W.cell? ⟨bx, 16, none⟩ = some (Value.slice ra rec.length rcap) := HP.out.box.cell rfl
   have eS1 : W.cell? ⟨bx, 20, none⟩ = some (.int .i64 x.code) := HP.out.box.cell rfl
   have KEEP := hid (fun (V : World) (h : Chg [] W V) => (⟨h.keep eS0 (by simp), h.keep eS1 (by simp), hid h⟩ : (fun V : World => V.cell? ⟨bx, 16, none⟩ = some (Value.slice ra rec.length rcap) /\ V.cell? ⟨bx, 20, none⟩ = some (.int .i64 x.code) /\ Hid (Chg [] W V)) V))
   clear eS0 eS1
   have hHeld : (fun V : World => V.cell? ⟨bx, 16, none⟩ = some (Value.slice ra rec.length rcap) /\ V.cell? ⟨bx, 20, none⟩ = some (.int .i64 x.code) /\ Hid (Chg [] W V)) (World.drew W) := KEEP.out _ (Chg.refl _ _).drew
   refine wp_region_plan (fun V : World => V.cell? ⟨bx, 16, none⟩ = some (Value.slice ra rec.length rcap) /\ V.cell? ⟨bx, 20, none⟩ = some (.int .i64 x.code) /\ Hid (Chg [] W V)) [(0, true, some 9), (1, true, some 10), (2, true, some 11), (3, true, some 12), (5, true, some 14), (6, true, some 15), (7, true, some 16), (8, true, some 17), (4, false, some 13), (9, true, some 2), (10, true, some 3)] (by kernel_rfl) (by kernel_rfl) (by kernel_rfl) (by kernel_rfl) (fun d c a v w h => by cases d <;> exact h) hHeld ?_
   repeat (first
    | (refine planWp_read (v := ?_) rfl rfl ?_ ?_ ?_; rotate_left; (focus rfl); (focus (intro u hSw; (try dsimp only at hSw); go_simp; (try with_reducible rfl))); (try simp only [Act.put, sA, sB, sC]))
    | (refine planWp_skip rfl rfl ?_ ?_; (focus rfl); (try simp only [Act.put, sA, sB, sC]))
    | (refine planWp_leave rfl rfl ?_ hHeld ?_; (focus rfl); (try simp only [Act.put, sA, sB, sC]))
    | (refine planWp_do rfl rfl ?_ (fun K hK => ?_); (focus rfl); go_simp; (try go_wp2_with (go_at_call 61; refine (Clone_words _ _ _ (HR.out.chg hHeld.2.2.out) HZ.out).mono ?_; rintro e w1 ⟨v1, rfl, ho1, hcx⟩; have HO1 := hid (own_base ho1 hHeld.2.2.out.size); have HCX := hid hcx; clear hcx ho1)); refine hK.out _ _ ?_ (fun hHeld2 => ?_); (focus (exact KEEP.out _ (Chg.trans hHeld.2.2.out HCX.out))); clear hK K hHeld; have hHeld := hHeld2; clear hHeld2; (try simp only [Act.put, sA, sB, sC])))
   refine planWp_nil ?_
   have HC := hid hHeld.2.2.out
   clear hHeld KEEP
   go_wp2_with fail
   go_ret2
   exact ⟨_, rfl, HO1.out, HC.out⟩
abbrev Q := Core × List Int × List Int
structure Kind where
 step : Core -> Value -> List Int -> List Int -> Q
 Shape : Core -> List Int -> Prop
 left : Core -> Int
 ok : ∀ {x : Core} {rec ws : List Int} (mv : Value), Shape x rec -> x.over = false -> (∀ z ∈ ws, 0 <= z /\ z <= 4294967295) →
  Shape (step x mv rec ws).1 (step x mv rec ws).2.1 /\ left (step x mv rec ws).1 + 1 <= left x /\ (step x mv rec ws).1.steps = x.steps + 1 /\ (step x mv rec ws).1.m = mv ∧
  (step x mv rec ws).1.base = x.base /\ (step x mv rec ws).1.size = x.size
 len : ∀ (x : Core) (mv : Value) (rec ws : List Int), (step x mv rec ws).2.2.length = ws.length
 pos : ∀ {x : Core} {rec : List Int}, Shape x rec -> x.over = false -> 1 <= left x
 zero : ∀ {x : Core}, x.over = true -> left x = 0
theorem opens_iff {x : Core} {l : Nat} (h0 : 0 <= x.base) (h1 : 0 <= x.size) (h2 : x.base + x.size <= l) : opens x l = !x.over := by
 have : insB (l : Int) x.base x.size = true := insB_true ⟨h0, h1, by omega, by omega⟩
 simp [opens, this]
def Kind.run (K : Kind) (mv : Value) : Nat -> Q -> Q
 | 0, q => q
 | k + 1, q => K.step (K.run mv k q).1 mv (K.run mv k q).2.1 (K.run mv k q).2.2
structure Kind.At (K : Kind) (T : TypeId) (bx mb : Nat) (sv : Value) (W0 : World) (r0 : Value) (q0 : Q) (n0 : Int) (wr : World) (k : Nat) : Prop where
 st : St T bx mb sv W0 r0 wr (K.run (.pointer (some ⟨mb, 0, none⟩)) k q0).1 (K.run (.pointer (some ⟨mb, 0, none⟩)) k q0).2.1 (K.run (.pointer (some ⟨mb, 0, none⟩)) k q0).2.2 (n0 + k)
 shape : K.Shape (K.run (.pointer (some ⟨mb, 0, none⟩)) k q0).1 (K.run (.pointer (some ⟨mb, 0, none⟩)) k q0).2.1
 left : K.left (K.run (.pointer (some ⟨mb, 0, none⟩)) k q0).1 + k <= K.left q0.1
 steps : (K.run (.pointer (some ⟨mb, 0, none⟩)) k q0).1.steps = q0.1.steps + k
 base : (K.run (.pointer (some ⟨mb, 0, none⟩)) k q0).1.base = q0.1.base
 size : (K.run (.pointer (some ⟨mb, 0, none⟩)) k q0).1.size = q0.1.size
section
variable {K : Kind} {T : TypeId} {bx mb : Nat} {sv r0 : Value} {W0 wr wr' : World} {q0 : Q} {n0 : Int} {k : Nat}
end
def stepsOf (wr : World) (bx : Nat) : Nat := match wr.cell? ⟨bx, 21, none⟩ with
 | some (.int _ n) => n.toNat
 | _ => 0
def Kind.next (K : Kind) (mv : Value) (q : Q) : Q := if opens q.1 q.2.2.length = true then K.step q.1 mv q.2.1 q.2.2 else q
def Kind.iter (K : Kind) (mv : Value) : Nat -> Q -> Q
 | 0, q => q
 | t + 1, q => K.next mv (K.iter mv t q)
structure Kind.Free (K : Kind) : Prop where
 free : ∀ (x : Core) (a mv : Value) (rec ws : List Int), K.step { x with m := a } mv rec ws = K.step x mv rec ws
 relabel : ∀ (x : Core) (mv mv' : Value) (rec ws : List Int), K.step x mv' rec ws = ({ (K.step x mv rec ws).1 with m := mv' }, (K.step x mv rec ws).2.1, (K.step x mv rec ws).2.2)
def Same (q q' : Q) : Prop := ∃ a, q' = ({ q.1 with m := a }, q.2.1, q.2.2)
structure Kind.Nx (K : Kind) (T : TypeId) (bx mb : Nat) (sv : Value) (W0 : World) (r0 : Value) (q0 : Q) (n0 : Int) (wr : World) (t : Nat) : Prop where
 st : ∃ n, St T bx mb sv W0 r0 wr (K.iter (.pointer (some ⟨mb, 0, none⟩)) t q0).1 (K.iter (.pointer (some ⟨mb, 0, none⟩)) t q0).2.1 (K.iter (.pointer (some ⟨mb, 0, none⟩)) t q0).2.2 n /\ n0 <= n /\ n <= n0 + t
 shape : K.Shape (K.iter (.pointer (some ⟨mb, 0, none⟩)) t q0).1 (K.iter (.pointer (some ⟨mb, 0, none⟩)) t q0).2.1
 steps : q0.1.steps <= (K.iter (.pointer (some ⟨mb, 0, none⟩)) t q0).1.steps /\ (K.iter (.pointer (some ⟨mb, 0, none⟩)) t q0).1.steps <= q0.1.steps + t
 one : (K.iter (.pointer (some ⟨mb, 0, none⟩)) t q0).1.m.oneCell' = true
section
variable {K : Kind} {T : TypeId} {bx mb : Nat} {sv r0 : Value} {W0 wr wr' : World} {q0 : Q} {n0 : Int} {t : Nat}
end
end Go.Proofs.YtphfnjcboellhaaGreatDoor.core
