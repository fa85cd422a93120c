import Derived.Test.YtphfnjcboellhaaGreatDoorKit
import Derived.Laws.Rows
import Derived.Laws.Tables
import Derived.Test.YtphfnjcboellhaaGreatDoorCore
import Derived.Deep.Cut
namespace Go.Proofs.YtphfnjcboellhaaGreatDoor.kit
open Go Go.RowKit
section
variable {P : Program} {w w0 : World} {ops : Array Oper} {rest : List Oper} {o : Oper} {a : Act} {K : Act -> World -> Prop} {Q : Exit -> Act -> World -> Prop}
theorem Blk.row {b : Nat} {c c' : Array Value} {T : TypeId} (h : Blk w b c T) : Blk (w.setRow b c') b c' T := setRow_heap w b c c' T (0, 0) h
theorem Chg.setRow {L : List Nat} {b : Nat} {c' : Array Value} (h : Chg L w0 w) (hb : b ∈ L \/ w0.heap.size <= b) : Chg L w0 (w.setRow b c') :=
 h.into (L := [b]) ⟨rfl, rfl, rfl, by simp [World.setRow], fun k hk hn => by
  simp only [World.setRow]
  rw [Array.getElem?_modify]
  have : ¬ b = k := fun e => hn (by simp [e])
  simp [this]⟩ fun x hx => by
  simp only [List.mem_singleton] at hx; subst hx; exact hb
theorem wp_store_blk (ty : TypeId) (x y : Operand) (ho : o.op = .store ty x y) (g : Nat) (cells : Array Value) (hx : a.eval x = .pointer (some ⟨g, 0, none⟩)) (hy : a.eval y = .agg cells)
 {t : TypeId} {old : Array Value} (hb : Blk w g old t) (hi : (P.info? ty).map (·.size) = some cells.size) (hold : old.size = cells.size) (h1 : cells.all (·.oneCell') = true)
 (h : ∀ w', Blk w' g cells t -> Chg [g] w w' -> K (a.put o.dst undef) w') : o.wp P a w K Q :=
 wp_store_row ty x y ho g cells hx hy t old hb hi hold h1 (h _ (Blk.row hb) ((Chg.refl _ _).setRow (.inl (by simp))))
theorem wpList_load_blk (hgd : o.guard = none) (ty : TypeId) (x : Operand) (ho : o.op = .load ty x) (g : Nat) (hx : a.eval x = .pointer (some ⟨g, 0, none⟩))
 {t : TypeId} {cs : Array Value} (hb : Blk w g cs t) (d : TypeDesc) (hu : P.underlying ty = some d) (hd : (match d with | .struct _ | .array _ _ => true | _ => false) = true) (hi : (P.info? ty).map (·.size) = some cs.size)
 (h : wpList P ops Q rest (a.put o.dst (.agg cs)) w) : wpList P ops Q (o :: rest) a w := wpList_load_row hgd ty x ho g hx t cs (0, 0) d hb hu hd hi h
theorem results_row_tmp {fn : Func} {p q : Tmp} {ty : TypeId} (h : fn.results = #[.cell p ty, .tmp q]) (tmps : Array Value) (w : World) (g : Nat) (t : TypeId) (cs : Array Value) (fr : Nat × Nat) (d : TypeDesc)
 (hp : tmps.getD p undef = .pointer (some ⟨g, 0, none⟩)) (hg : w.heap[g]? = some (.cells cs t fr))
 (hu : P.underlying ty = some d) (hd : (match d with | .struct _ | .array _ _ => true | _ => false) = true) (hi : (P.info? ty).map (·.size) = some cs.size) :
 (results fn tmps).run P w = .ok (.tuple #[.agg cs, tmps.getD q undef]) w := by
 have hp' : tmps[p]?.getD undef = .pointer (some ⟨g, 0, none⟩) := by simpa using hp
 simp [results, h, hp', asAddr, run_loadVar_row w g t ty cs fr d hg hu hd hi]
end
end Go.Proofs.YtphfnjcboellhaaGreatDoor.kit
namespace Go.Proofs.YtphfnjcboellhaaGreatDoor.core
open Go Go.RowKit kit mem rop
set_option maxRecDepth 20000
theorem coreSize : (Tryz.prog.info? 121).map (·.size) = some 23 := by kernel_rfl
theorem cells_one (x : Core) (v : Value) (hm : x.m.oneCell' = true) (hv : v.oneCell' = true) : (x.cells v).all (·.oneCell') = true := by
 simp [Core.cells, Value.oneCell']
 exact ⟨hv, hm⟩
theorem blk_new1 (w : World) (z : Obj) (c : Array Value) (T : TypeId) : Blk ((w.alloc z).alloc (.cells c T)) (w.heap.size + 1) c T := by
 have := Blk.new (w.alloc z) c T
 have hs : (w.alloc z).heap.size = w.heap.size + 1 := by show (w.heap.push z).size = _; simp
 rwa [hs] at this
theorem own_ne {w w3 : World} {g : Nat} {c : Array Value} {T : TypeId} {e : TypeId} {s n : Nat} {v : Value} {xs : List Value} (h : w.ownsRow w3.heap.size e s v n xs) (hb : Blk w3 g c T) : ∀ b, v.ownBlock = some b -> b ∉ [g] := by
 intro b hy
 have := hb.lt
 rcases h.2 with ⟨rfl, _⟩ | ⟨g', cap, cur, rfl, hbg, _⟩
 · cases hy
 · simp [Value.ownBlock] at hy
   simp
   omega
theorem block_gen {K : Exit -> Act -> World -> Prop} {n : Nat} {e : Exit} {a : Act} {W : World} {R : World -> Prop} (hp : R W) (h : ∀ W', R W' -> Exit.inBlock n K e a W') : Exit.inBlock n K e a W := h W hp
theorem blk_new2 (w : World) (z y : Obj) (c : Array Value) (T : TypeId) : Blk (((w.alloc z).alloc y).alloc (.cells c T)) (w.heap.size + 1 + 1) c T := by
 have := blk_new1 (w.alloc z) y c T
 have hs : (w.alloc z).heap.size = w.heap.size + 1 := by show (w.heap.push z).size = _; simp
 rwa [hs] at this
def begI (w : Int) (rl : Nat) (size at_ op rd_ o0 o1 : Int) (n : Nat) : Int :=
 if size < 1 \/ at_ < 0 then 1 else if op = o0 then (if rd_ < 0 \/ 1 <= rd_ then 5 else if (n : Int) ≠ w then 4 else 0)
 else if op = o1 then (if rd_ < 0 \/ (rl : Int) <= rd_ then 5 else if n ≠ 0 then 4 else 0) else 9
set_option maxHeartbeats 4000000 in
theorem Begin_ok0 (k w s c st : Int) (ia : Option Addr) (il ic : Nat) (wr : Int) (ra : Option Addr) (rl rc : Nat) (size at_ op rd_ o0 o1 : Int) (rv : Value) (rec : List Int) (W : World) (hr : ReadsW W rv rec) (hl : rec.length <= 1000) (hs : ¬ size < 1) (ha : ¬ at_ < 0) (ho : op = o0) (hd : rd_ = 0) (hw : (rec.length : Int) = w) :
 Calls Tryz.prog 125 #[.agg #[.int .i64 k, .int .i64 w, .int .i64 s, .int .i64 c, .int .u32 st, .slice ia il ic, .int .i64 wr, .slice ra rl rc], .int .i64 size, .int .i64 at_, .int .i64 op, .int .i64 rd_, rv, .agg #[.int .i64 o0, .int .i64 o1]] W fun e W' => ∃ v', e = .returned (.tuple #[.agg (({ k := k, w := w, s := s, c := c, st := st, ia := ia, il := il, ic := ic, wr := wr, ra := ra, rl := rl, rc := rc, op := op, reader := rd_, phase := 0, i := 0, tries := 0, a := 0, b := 0, used := 0, m := .pointer none, base := at_, size := size, code := 0, steps := 0, over := false } : Core).cells v'), .int .i64 0]) /\ OwnW W' W.heap.size v' rec /\ Chg [] W W' := by
 obtain ⟨ra0, rcap0, rfl, _⟩ := reads_slice hr.1
 have HR := hid hr
 have HZL : Hid (rec.length <= 1000000) := hid (by omega)
 have b1 : decide (size < 1) = false := by simpa using hs
 have b2 : decide (at_ < 0) = false := by simpa using ha
 have bo : (op == o0) = true := by simpa using ho
 have bw : ((rec.length : Int) != w) = false := by simpa using hw
 have bd : decide (rd_ < 0) = false := by simp [hd]
 have be : decide (1 <= rd_) = false := by simp [hd]
 clear hr hl hs ha ho hw hd
 go_enter Tryz.func125, Tryz.ntmps125
 go_wp2_with fail
 refine code_gen (R := fun V => Hid (Blk V W.heap.size #[.int .i64 k, .int .i64 w, .int .i64 s, .int .i64 c, .int .u32 st, .slice ia il ic, .int .i64 wr, .slice ra rl rc] 26) /\ Hid (Blk V (W.heap.size + 1 + 1) #[.int .i64 0, .int .i64 0, .int .i64 0, .int .i64 0, .int .u32 0, .slice none 0 0, .int .i64 0, .slice none 0 0, .int .i64 0, .int .i64 0, .int .i64 0, .int .i64 0, .int .i64 0, .int .u32 0, .int .u32 0, .int .u64 0, .slice none 0 0, .pointer none, .int .i64 0, .int .i64 0, .int .i64 0, .int .i64 0, .bool false] 121) /\ Hid (Chg [] W V)) ⟨hid ((Blk.new W #[.int .i64 k, .int .i64 w, .int .i64 s, .int .i64 c, .int .u32 st, .slice ia il ic, .int .i64 wr, .slice ra rl rc] 26).keep ((((Chg.refl [] _).alloc (.cells #[.int .i64 o0, .int .i64 o1] 134))).alloc (.cells #[.int .i64 0, .int .i64 0, .int .i64 0, .int .i64 0, .int .u32 0, .slice none 0 0, .int .i64 0, .slice none 0 0, .int .i64 0, .int .i64 0, .int .i64 0, .int .i64 0, .int .i64 0, .int .u32 0, .int .u32 0, .int .u64 0, .slice none 0 0, .pointer none, .int .i64 0, .int .i64 0, .int .i64 0, .int .i64 0, .bool false] 121)) (by simp)), hid (blk_new2 W (.cells #[.int .i64 k, .int .i64 w, .int .i64 s, .int .i64 c, .int .u32 st, .slice ia il ic, .int .i64 wr, .slice ra rl rc] 26) (.cells #[.int .i64 o0, .int .i64 o1] 134) _ _), hid ((((Chg.refl [] W).alloc (.cells #[.int .i64 k, .int .i64 w, .int .i64 s, .int .i64 c, .int .u32 st, .slice ia il ic, .int .i64 wr, .slice ra rl rc] 26)).alloc (.cells #[.int .i64 o0, .int .i64 o1] 134)).alloc _)⟩ ?_
 rintro W1 ⟨HO1, HZ1, HC1⟩
 have eS0 : W1.cell? ⟨W.heap.size, 1, none⟩ = some (.int .i64 w) := HO1.out.cell rfl
 have KEEP := hid (fun (V : World) (h : Chg [] W1 V) => (⟨h.keep eS0 (by simp), hid h⟩ : (fun V : World => V.cell? ⟨W.heap.size, 1, none⟩ = some (.int .i64 w) /\ Hid (Chg [] W1 V)) V))
 clear eS0
 have hHeld : (fun V : World => V.cell? ⟨W.heap.size, 1, none⟩ = some (.int .i64 w) /\ Hid (Chg [] W1 V)) (World.drew W1) := KEEP.out _ (Chg.refl _ _).drew
 refine wp_region_plan (fun V : World => V.cell? ⟨W.heap.size, 1, none⟩ = some (.int .i64 w) /\ Hid (Chg [] W1 V)) [(0, true, some 34), (1, true, some 35), (2, true, some 16), (3, true, some 17)] (by kernel_rfl) (by kernel_rfl) (by kernel_rfl) (by kernel_rfl) (fun d c a v w h => by cases d <;> exact h) hHeld ?_
 repeat (first
  | (refine planWp_read (v := ?_) rfl rfl ?_ ?_ ?_; rotate_left; (focus rfl); (focus (intro u hSw; (try dsimp only at hSw); go_simp; (try with_reducible rfl))); (try simp only [Act.put, sA, sB, sC]))
  | (refine planWp_skip rfl rfl ?_ ?_; (focus rfl); (try simp only [Act.put, sA, sB, sC]))
  | (refine planWp_leave rfl rfl ?_ hHeld ?_; (focus rfl); (try simp only [Act.put, sA, sB, sC]))
  | (refine planWp_do rfl rfl ?_ (fun K hK => ?_); (focus rfl); go_simp; (try go_wp2_with fail); refine hK.out _ _ ?_ (fun hHeld2 => ?_); (focus (exact KEEP.out _ (Chg.trans hHeld.2.out HCX.out))); clear hK K hHeld; have hHeld := hHeld2; clear hHeld2; (try simp only [Act.put, sA, sB, sC])))
 refine planWp_nil ?_
 refine block_gen (R := fun V => Hid (Blk V W.heap.size #[.int .i64 k, .int .i64 w, .int .i64 s, .int .i64 c, .int .u32 st, .slice ia il ic, .int .i64 wr, .slice ra rl rc] 26) /\ Hid (Blk V (W.heap.size + 1 + 1) #[.int .i64 0, .int .i64 0, .int .i64 0, .int .i64 0, .int .u32 0, .slice none 0 0, .int .i64 0, .slice none 0 0, .int .i64 0, .int .i64 0, .int .i64 0, .int .i64 0, .int .i64 0, .int .u32 0, .int .u32 0, .int .u64 0, .slice none 0 0, .pointer none, .int .i64 0, .int .i64 0, .int .i64 0, .int .i64 0, .bool false] 121) /\ Hid (Chg [] W V)) ⟨hid (HO1.out.keep hHeld.2.out (by simp)), hid (HZ1.out.keep hHeld.2.out (by simp)), hid (HC1.out.trans hHeld.2.out)⟩ ?_
 clear hHeld KEEP HO1 HZ1 HC1
 rintro W1 ⟨HO1, HZ1, HC1⟩
 go_wp2_with fail
 have eS0 : W1.cell? ⟨W.heap.size, 0, none⟩ = some (.int .i64 k) := HO1.out.cell rfl
 have eS1 : W1.cell? ⟨W.heap.size, 1, none⟩ = some (.int .i64 w) := HO1.out.cell rfl
 have eS2 : W1.cell? ⟨W.heap.size, 2, none⟩ = some (.int .i64 s) := HO1.out.cell rfl
 have eS3 : W1.cell? ⟨W.heap.size, 3, none⟩ = some (.int .i64 c) := HO1.out.cell rfl
 have eS4 : W1.cell? ⟨W.heap.size, 4, none⟩ = some (.int .u32 st) := HO1.out.cell rfl
 have eS5 : W1.cell? ⟨W.heap.size, 5, none⟩ = some (.slice ia il ic) := HO1.out.cell rfl
 have eS6 : W1.cell? ⟨W.heap.size, 6, none⟩ = some (.int .i64 wr) := HO1.out.cell rfl
 have eS7 : W1.cell? ⟨W.heap.size, 7, none⟩ = some (.slice ra rl rc) := HO1.out.cell rfl
 have KEEP := hid (fun (V : World) (h : Chg [W.heap.size + 1 + 1] W1 V) => (⟨h.keep eS0 (by simp; omega), h.keep eS1 (by simp; omega), h.keep eS2 (by simp; omega), h.keep eS3 (by simp; omega), h.keep eS4 (by simp; omega), h.keep eS5 (by simp; omega), h.keep eS6 (by simp; omega), h.keep eS7 (by simp; omega), hid h⟩ : (fun V : World => V.cell? ⟨W.heap.size, 0, none⟩ = some (.int .i64 k) /\ V.cell? ⟨W.heap.size, 1, none⟩ = some (.int .i64 w) /\ V.cell? ⟨W.heap.size, 2, none⟩ = some (.int .i64 s) /\ V.cell? ⟨W.heap.size, 3, none⟩ = some (.int .i64 c) /\ V.cell? ⟨W.heap.size, 4, none⟩ = some (.int .u32 st) /\ V.cell? ⟨W.heap.size, 5, none⟩ = some (.slice ia il ic) /\ V.cell? ⟨W.heap.size, 6, none⟩ = some (.int .i64 wr) /\ V.cell? ⟨W.heap.size, 7, none⟩ = some (.slice ra rl rc) /\ Hid (Chg [W.heap.size + 1 + 1] W1 V)) V))
 clear eS0 eS1 eS2 eS3 eS4 eS5 eS6 eS7
 have hHeld : (fun V : World => V.cell? ⟨W.heap.size, 0, none⟩ = some (.int .i64 k) /\ V.cell? ⟨W.heap.size, 1, none⟩ = some (.int .i64 w) /\ V.cell? ⟨W.heap.size, 2, none⟩ = some (.int .i64 s) /\ V.cell? ⟨W.heap.size, 3, none⟩ = some (.int .i64 c) /\ V.cell? ⟨W.heap.size, 4, none⟩ = some (.int .u32 st) /\ V.cell? ⟨W.heap.size, 5, none⟩ = some (.slice ia il ic) /\ V.cell? ⟨W.heap.size, 6, none⟩ = some (.int .i64 wr) /\ V.cell? ⟨W.heap.size, 7, none⟩ = some (.slice ra rl rc) /\ Hid (Chg [W.heap.size + 1 + 1] W1 V)) W1.drew := KEEP.out _ (Chg.refl _ _).drew
 refine wp_region_plan (fun V : World => V.cell? ⟨W.heap.size, 0, none⟩ = some (.int .i64 k) /\ V.cell? ⟨W.heap.size, 1, none⟩ = some (.int .i64 w) /\ V.cell? ⟨W.heap.size, 2, none⟩ = some (.int .i64 s) /\ V.cell? ⟨W.heap.size, 3, none⟩ = some (.int .i64 c) /\ V.cell? ⟨W.heap.size, 4, none⟩ = some (.int .u32 st) /\ V.cell? ⟨W.heap.size, 5, none⟩ = some (.slice ia il ic) /\ V.cell? ⟨W.heap.size, 6, none⟩ = some (.int .i64 wr) /\ V.cell? ⟨W.heap.size, 7, none⟩ = some (.slice ra rl rc) /\ Hid (Chg [W.heap.size + 1 + 1] W1 V)) [(0, true, some 55), (1, true, some 56), (2, true, some 57), (3, true, some 58), (5, true, some 60), (6, true, some 61), (4, false, some 59), (7, true, some 62), (8, false, none), (9, true, some 15)] (by kernel_rfl) (by kernel_rfl) (by kernel_rfl) (by kernel_rfl) (fun d c a v w h => by cases d <;> exact h) hHeld ?_
 repeat (refine planWp_read (v := ?_) rfl rfl ?_ ?_ ?_; rotate_left; (focus rfl); (focus (intro u hSw; (try dsimp only at hSw); go_simp; (try with_reducible rfl))); (try simp only [Act.put, sA, sB, sC]))
 refine planWp_do rfl rfl ?_ (fun K hK => ?_)
 · rfl
 go_simp
 go_wp2_with (go_at_call 61; refine (Clone_words _ _ _ (HR.out.chg (HC1.out.drew)) HZL.out).mono ?_; rintro e w4 ⟨v4, rfl, ho4, hc4⟩; have HC4 := hid ((Chg.refl [] W1).drew.trans hc4); have HO4 : Hid (OwnW w4 W1.heap.size v4 rec) := hid ho4; clear ho4 hc4)
 refine hK.out _ _ (KEEP.out _ (HC4.out.mono (by simp))) (fun hHeld2 => ?_)
 clear hK K hHeld
 have hHeld := hHeld2
 clear hHeld2
 try simp only [Act.put, sA, sB, sC]
 obtain ⟨a4, c4, rfl, _⟩ := reads_slice (Reads.of_own HO4.out (by decide))
 repeat (refine planWp_read (v := ?_) rfl rfl ?_ ?_ ?_; rotate_left; (focus rfl); (focus (intro u hSw; (try dsimp only at hSw); go_simp; (try with_reducible rfl))); (try simp only [Act.put, sA, sB, sC]))
 refine planWp_do rfl rfl ?_ (fun K hK => ?_)
 · rfl
 have hne : ∀ y, (Value.slice a4 rec.length c4).ownBlock = some y -> y ∉ [W.heap.size + 1 + 1] := own_ne (w3 := W1) HO4.out HZ1.out
 refine wp_store_blk 121 (.tmp 14) (.tmp 62) rfl (W.heap.size + 1 + 1) (({ k := k, w := w, s := s, c := c, st := st, ia := ia, il := il, ic := ic, wr := wr, ra := ra, rl := rl, rc := rc, op := op, reader := rd_, phase := 0, i := 0, tries := 0, a := 0, b := 0, used := 0, m := .pointer none, base := at_, size := size, code := 0, steps := 0, over := false } : Core).cells (.slice a4 rec.length c4)) rfl rfl (HZ1.out.keep HC4.out (by simp)) coreSize rfl (cells_one _ _ rfl rfl) ?_
 intro w5 hb5 hc5
 refine hK.out _ _ (KEEP.out _ ((HC4.out.mono (by simp)).trans hc5)) (fun hHeld2 => ?_)
 clear hK K hHeld hHeld2 KEEP
 try simp only [Act.put, sA, sB, sC]
 repeat (refine planWp_read (v := ?_) rfl rfl ?_ ?_ ?_; rotate_left; (focus rfl); (focus (intro u hSw; (try dsimp only at hSw); go_simp; (try with_reducible rfl))); (try simp only [Act.put, sA, sB, sC]))
 refine planWp_nil ?_
 have HB5 := hid hb5
 have HC5 : Hid (Chg [] W w5) := hid ((HC1.out.trans HC4.out).into hc5 (fun y hy => by simp at hy; right; omega))
 have HO5 := hid (own_base (mem.own_chg HO4.out hc5 hne) (B' := W.heap.size) HC1.out.size)
 clear hb5 hc5 hne
 go_wp2_with fail
 refine bodyPost_ret (v := .tuple #[.agg (({ k := k, w := w, s := s, c := c, st := st, ia := ia, il := il, ic := ic, wr := wr, ra := ra, rl := rl, rc := rc, op := op, reader := rd_, phase := 0, i := 0, tries := 0, a := 0, b := 0, used := 0, m := .pointer none, base := at_, size := size, code := 0, steps := 0, over := false } : Core).cells (.slice a4 rec.length c4)), .int .i64 0]) ?_ rfl ⟨_, rfl, HO5.out, HC5.out⟩
 exact results_row_tmp (p := 14) (q := 15) rfl _ _ (W.heap.size + 1 + 1) 121 _ (0, 0) _ rfl HB5.out Tryz.underlying121 rfl coreSize
set_option maxHeartbeats 4000000 in
theorem Begin_ok1 (k w s c st : Int) (ia : Option Addr) (il ic : Nat) (wr : Int) (ra : Option Addr) (rl rc : Nat) (size at_ op rd_ o0 o1 : Int) (rv : Value) (rec : List Int) (W : World) (hr : ReadsW W rv rec) (hl : rec.length <= 1000) (hs : ¬ size < 1) (ha : ¬ at_ < 0) (ho0 : op ≠ o0) (ho : op = o1) (hd0 : 0 <= rd_) (hd : rd_ < rl) (hw : rec.length = 0) :
 Calls Tryz.prog 125 #[.agg #[.int .i64 k, .int .i64 w, .int .i64 s, .int .i64 c, .int .u32 st, .slice ia il ic, .int .i64 wr, .slice ra rl rc], .int .i64 size, .int .i64 at_, .int .i64 op, .int .i64 rd_, rv, .agg #[.int .i64 o0, .int .i64 o1]] W fun e W' => ∃ v', e = .returned (.tuple #[.agg (({ k := k, w := w, s := s, c := c, st := st, ia := ia, il := il, ic := ic, wr := wr, ra := ra, rl := rl, rc := rc, op := op, reader := rd_, phase := 0, i := 0, tries := 0, a := 0, b := 0, used := 0, m := .pointer none, base := at_, size := size, code := 0, steps := 0, over := false } : Core).cells v'), .int .i64 0]) /\ OwnW W' W.heap.size v' rec /\ Chg [] W W' := by
 obtain ⟨ra0, rcap0, rfl, _⟩ := reads_slice hr.1
 have HR := hid hr
 have HZL : Hid (rec.length <= 1000000) := hid (by omega)
 have b1 : decide (size < 1) = false := by simpa using hs
 have b2 : decide (at_ < 0) = false := by simpa using ha
 have bo0 : (op == o0) = false := by simpa using ho0
 have bo : (op == o1) = true := by simpa using ho
 have bw : ((rec.length : Int) != 0) = false := by simp [hw]
 have bd : decide (rd_ < 0) = false := by simpa using hd0
 have be : decide ((rl : Int) <= rd_) = false := by simpa using hd
 clear hr hl hs ha ho hw hd ho0 hd0
 go_enter Tryz.func125, Tryz.ntmps125
 go_wp2_with fail
 refine code_gen (R := fun V => Hid (Blk V W.heap.size #[.int .i64 k, .int .i64 w, .int .i64 s, .int .i64 c, .int .u32 st, .slice ia il ic, .int .i64 wr, .slice ra rl rc] 26) /\ Hid (Blk V (W.heap.size + 1 + 1) #[.int .i64 0, .int .i64 0, .int .i64 0, .int .i64 0, .int .u32 0, .slice none 0 0, .int .i64 0, .slice none 0 0, .int .i64 0, .int .i64 0, .int .i64 0, .int .i64 0, .int .i64 0, .int .u32 0, .int .u32 0, .int .u64 0, .slice none 0 0, .pointer none, .int .i64 0, .int .i64 0, .int .i64 0, .int .i64 0, .bool false] 121) /\ Hid (Chg [] W V)) ⟨hid ((Blk.new W #[.int .i64 k, .int .i64 w, .int .i64 s, .int .i64 c, .int .u32 st, .slice ia il ic, .int .i64 wr, .slice ra rl rc] 26).keep ((((Chg.refl [] _).alloc (.cells #[.int .i64 o0, .int .i64 o1] 134))).alloc (.cells #[.int .i64 0, .int .i64 0, .int .i64 0, .int .i64 0, .int .u32 0, .slice none 0 0, .int .i64 0, .slice none 0 0, .int .i64 0, .int .i64 0, .int .i64 0, .int .i64 0, .int .i64 0, .int .u32 0, .int .u32 0, .int .u64 0, .slice none 0 0, .pointer none, .int .i64 0, .int .i64 0, .int .i64 0, .int .i64 0, .bool false] 121)) (by simp)), hid (blk_new2 W (.cells #[.int .i64 k, .int .i64 w, .int .i64 s, .int .i64 c, .int .u32 st, .slice ia il ic, .int .i64 wr, .slice ra rl rc] 26) (.cells #[.int .i64 o0, .int .i64 o1] 134) _ _), hid ((((Chg.refl [] W).alloc (.cells #[.int .i64 k, .int .i64 w, .int .i64 s, .int .i64 c, .int .u32 st, .slice ia il ic, .int .i64 wr, .slice ra rl rc] 26)).alloc (.cells #[.int .i64 o0, .int .i64 o1] 134)).alloc _)⟩ ?_
 rintro W1 ⟨HO1, HZ1, HC1⟩
 have eS0 : W1.cell? ⟨W.heap.size, 0, none⟩ = some (.int .i64 k) := HO1.out.cell rfl
 have eS1 : W1.cell? ⟨W.heap.size, 1, none⟩ = some (.int .i64 w) := HO1.out.cell rfl
 have eS2 : W1.cell? ⟨W.heap.size, 2, none⟩ = some (.int .i64 s) := HO1.out.cell rfl
 have eS3 : W1.cell? ⟨W.heap.size, 3, none⟩ = some (.int .i64 c) := HO1.out.cell rfl
 have eS4 : W1.cell? ⟨W.heap.size, 4, none⟩ = some (.int .u32 st) := HO1.out.cell rfl
 have eS5 : W1.cell? ⟨W.heap.size, 5, none⟩ = some (.slice ia il ic) := HO1.out.cell rfl
 have eS6 : W1.cell? ⟨W.heap.size, 6, none⟩ = some (.int .i64 wr) := HO1.out.cell rfl
 have eS7 : W1.cell? ⟨W.heap.size, 7, none⟩ = some (.slice ra rl rc) := HO1.out.cell rfl
 have KEEP := hid (fun (V : World) (h : Chg [W.heap.size + 1 + 1] W1 V) => (⟨h.keep eS0 (by simp; omega), h.keep eS1 (by simp; omega), h.keep eS2 (by simp; omega), h.keep eS3 (by simp; omega), h.keep eS4 (by simp; omega), h.keep eS5 (by simp; omega), h.keep eS6 (by simp; omega), h.keep eS7 (by simp; omega), hid h⟩ : (fun V : World => V.cell? ⟨W.heap.size, 0, none⟩ = some (.int .i64 k) /\ V.cell? ⟨W.heap.size, 1, none⟩ = some (.int .i64 w) /\ V.cell? ⟨W.heap.size, 2, none⟩ = some (.int .i64 s) /\ V.cell? ⟨W.heap.size, 3, none⟩ = some (.int .i64 c) /\ V.cell? ⟨W.heap.size, 4, none⟩ = some (.int .u32 st) /\ V.cell? ⟨W.heap.size, 5, none⟩ = some (.slice ia il ic) /\ V.cell? ⟨W.heap.size, 6, none⟩ = some (.int .i64 wr) /\ V.cell? ⟨W.heap.size, 7, none⟩ = some (.slice ra rl rc) /\ Hid (Chg [W.heap.size + 1 + 1] W1 V)) V))
 clear eS0 eS1 eS2 eS3 eS4 eS5 eS6 eS7
 have hHeld : (fun V : World => V.cell? ⟨W.heap.size, 0, none⟩ = some (.int .i64 k) /\ V.cell? ⟨W.heap.size, 1, none⟩ = some (.int .i64 w) /\ V.cell? ⟨W.heap.size, 2, none⟩ = some (.int .i64 s) /\ V.cell? ⟨W.heap.size, 3, none⟩ = some (.int .i64 c) /\ V.cell? ⟨W.heap.size, 4, none⟩ = some (.int .u32 st) /\ V.cell? ⟨W.heap.size, 5, none⟩ = some (.slice ia il ic) /\ V.cell? ⟨W.heap.size, 6, none⟩ = some (.int .i64 wr) /\ V.cell? ⟨W.heap.size, 7, none⟩ = some (.slice ra rl rc) /\ Hid (Chg [W.heap.size + 1 + 1] W1 V)) W1.drew := KEEP.out _ (Chg.refl _ _).drew
 refine wp_region_plan (fun V : World => V.cell? ⟨W.heap.size, 0, none⟩ = some (.int .i64 k) /\ V.cell? ⟨W.heap.size, 1, none⟩ = some (.int .i64 w) /\ V.cell? ⟨W.heap.size, 2, none⟩ = some (.int .i64 s) /\ V.cell? ⟨W.heap.size, 3, none⟩ = some (.int .i64 c) /\ V.cell? ⟨W.heap.size, 4, none⟩ = some (.int .u32 st) /\ V.cell? ⟨W.heap.size, 5, none⟩ = some (.slice ia il ic) /\ V.cell? ⟨W.heap.size, 6, none⟩ = some (.int .i64 wr) /\ V.cell? ⟨W.heap.size, 7, none⟩ = some (.slice ra rl rc) /\ Hid (Chg [W.heap.size + 1 + 1] W1 V)) [(0, true, some 55), (1, true, some 56), (2, true, some 57), (3, true, some 58), (5, true, some 60), (6, true, some 61), (4, false, some 59), (7, true, some 62), (8, false, none), (9, true, some 15)] (by kernel_rfl) (by kernel_rfl) (by kernel_rfl) (by kernel_rfl) (fun d c a v w h => by cases d <;> exact h) hHeld ?_
 repeat (refine planWp_read (v := ?_) rfl rfl ?_ ?_ ?_; rotate_left; (focus rfl); (focus (intro u hSw; (try dsimp only at hSw); go_simp; (try with_reducible rfl))); (try simp only [Act.put, sA, sB, sC]))
 refine planWp_do rfl rfl ?_ (fun K hK => ?_)
 · rfl
 go_simp
 go_wp2_with (go_at_call 61; refine (Clone_words _ _ _ (HR.out.chg (HC1.out.drew)) HZL.out).mono ?_; rintro e w4 ⟨v4, rfl, ho4, hc4⟩; have HC4 := hid ((Chg.refl [] W1).drew.trans hc4); have HO4 : Hid (OwnW w4 W1.heap.size v4 rec) := hid ho4; clear ho4 hc4)
 refine hK.out _ _ (KEEP.out _ (HC4.out.mono (by simp))) (fun hHeld2 => ?_)
 clear hK K hHeld
 have hHeld := hHeld2
 clear hHeld2
 try simp only [Act.put, sA, sB, sC]
 obtain ⟨a4, c4, rfl, _⟩ := reads_slice (Reads.of_own HO4.out (by decide))
 repeat (refine planWp_read (v := ?_) rfl rfl ?_ ?_ ?_; rotate_left; (focus rfl); (focus (intro u hSw; (try dsimp only at hSw); go_simp; (try with_reducible rfl))); (try simp only [Act.put, sA, sB, sC]))
 refine planWp_do rfl rfl ?_ (fun K hK => ?_)
 · rfl
 have hne : ∀ y, (Value.slice a4 rec.length c4).ownBlock = some y -> y ∉ [W.heap.size + 1 + 1] := own_ne (w3 := W1) HO4.out HZ1.out
 refine wp_store_blk 121 (.tmp 14) (.tmp 62) rfl (W.heap.size + 1 + 1) (({ k := k, w := w, s := s, c := c, st := st, ia := ia, il := il, ic := ic, wr := wr, ra := ra, rl := rl, rc := rc, op := op, reader := rd_, phase := 0, i := 0, tries := 0, a := 0, b := 0, used := 0, m := .pointer none, base := at_, size := size, code := 0, steps := 0, over := false } : Core).cells (.slice a4 rec.length c4)) rfl rfl (HZ1.out.keep HC4.out (by simp)) coreSize rfl (cells_one _ _ rfl rfl) ?_
 intro w5 hb5 hc5
 refine hK.out _ _ (KEEP.out _ ((HC4.out.mono (by simp)).trans hc5)) (fun hHeld2 => ?_)
 clear hK K hHeld hHeld2 KEEP
 try simp only [Act.put, sA, sB, sC]
 repeat (refine planWp_read (v := ?_) rfl rfl ?_ ?_ ?_; rotate_left; (focus rfl); (focus (intro u hSw; (try dsimp only at hSw); go_simp; (try with_reducible rfl))); (try simp only [Act.put, sA, sB, sC]))
 refine planWp_nil ?_
 have HB5 := hid hb5
 have HC5 : Hid (Chg [] W w5) := hid ((HC1.out.trans HC4.out).into hc5 (fun y hy => by simp at hy; right; omega))
 have HO5 := hid (own_base (mem.own_chg HO4.out hc5 hne) (B' := W.heap.size) HC1.out.size)
 clear hb5 hc5 hne
 go_wp2_with fail
 refine bodyPost_ret (v := .tuple #[.agg (({ k := k, w := w, s := s, c := c, st := st, ia := ia, il := il, ic := ic, wr := wr, ra := ra, rl := rl, rc := rc, op := op, reader := rd_, phase := 0, i := 0, tries := 0, a := 0, b := 0, used := 0, m := .pointer none, base := at_, size := size, code := 0, steps := 0, over := false } : Core).cells (.slice a4 rec.length c4)), .int .i64 0]) ?_ rfl ⟨_, rfl, HO5.out, HC5.out⟩
 exact results_row_tmp (p := 14) (q := 15) rfl _ _ (W.heap.size + 1 + 1) 121 _ (0, 0) _ rfl HB5.out Tryz.underlying121 rfl coreSize
end Go.Proofs.YtphfnjcboellhaaGreatDoor.core
