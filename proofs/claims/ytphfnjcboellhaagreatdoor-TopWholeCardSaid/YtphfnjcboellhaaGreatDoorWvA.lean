import Derived.Test.YtphfnjcboellhaaGreatDoorFourA
import Derived.Test.YtphfnjcboellhaaGreatDoorFourB
import Derived.Test.YtphfnjcboellhaaGreatDoorSeqA
import Derived.Test.YtphfnjcboellhaaGreatDoorSeqB
import Derived.Test.YtphfnjcboellhaaGreatDoorRing4
import Derived.Test.YtphfnjcboellhaaGreatDoorFifo4
import Derived.Test.YtphfnjcboellhaaGreatDoorCab4
import Derived.Test.YtphfnjcboellhaaGreatDoorChen4
import Derived.Test.YtphfnjcboellhaaGreatDoorLay3
namespace Go.Proofs.YtphfnjcboellhaaGreatDoor.wv
open Go Go.RowKit kit obj mem core
set_option maxRecDepth 20000
def opP (i kk bx : Nat) : Value := if i = kk then .pointer (some ⟨bx, 0, none⟩) else .pointer none
def opCells (kk bx : Nat) : Array Value := #[.int .i64 (kk : Int), opP 1 kk bx, opP 2 kk bx, opP 3 kk bx, opP 4 kk bx, opP 5 kk bx, opP 6 kk bx]
theorem tab_keep {w w' : World} {L : List Nat} (h : bitm.Tab w) (c : Chg L w w') (h0 : 0 ∉ L) : bitm.Tab w' := fun j hj => c.keep (h j hj) h0
theorem tab_st {T : TypeId} {bx mb : Nat} {sv v : Value} {W V : World} {x' : Core} {rec' ws' : List Int} {n' : Int} (h : bitm.Tab W) (h0 : 0 ∉ bx :: mb :: (sv.ownBlock.toList ++ v.ownBlock.toList)) (hs : St T bx mb sv W v V x' rec' ws' n') : bitm.Tab V := by
 obtain ⟨v', -, he⟩ := hs
 exact tab_keep h he.chg h0
theorem own_ge {W : World} {B : Nat} {v : Value} {l : List Int} (h : OwnW W B v l) : ∀ y, v.ownBlock = some y -> B <= y := by
 intro y hy
 rcases h.2 with ⟨rfl, _⟩ | ⟨g, _, _, rfl, hg, _⟩
 · cases hy
 · simp [Value.ownBlock] at hy; omega
def freshC (k w s c st : Int) (ia : Option Addr) (il ic : Nat) (wr : Int) (ra : Option Addr) (rl rc : Nat) (size op rd_ : Int) : Core := { k := k, w := w, s := s, c := c, st := st, ia := ia, il := il, ic := ic, wr := wr, ra := ra, rl := rl, rc := rc, op := op, reader := rd_, phase := 0, i := 0, tries := 0, a := 0, b := 0, used := 0, m := .pointer none, base := 0, size := size, code := 0, steps := 0, over := false }
theorem Over_nil (W : World) : Calls Tryz.prog 39 #[.pointer none] W fun e W' => e = .returned (.bool true) /\ W = W' := by
 go_enter Tryz.func39, Tryz.ntmps39
 go_wp2_with fail
 go_ret
 exact ⟨rfl, rfl⟩
set_option maxHeartbeats 2000000 in
theorem step_four {ob bx mb : Nat} {sv v : Value} {W : World} {x : Core} {rec ws : List Int} {n : Int} (hT : bitm.Tab W) (h0 : 0 ∉ bx :: mb :: (sv.ownBlock.toList ++ v.ownBlock.toList)) (hb : Blk W ob (opCells 1 bx) 102) (hI : four.Shape x rec) (hs : 0 <= x.steps /\ x.steps <= 1000000) (ho : opens x ws.length = true) (hn : 0 <= n /\ n <= 1000000) (h : Pair 123 bx mb sv W x v rec ws n) :
 Calls Tryz.prog 38 #[.pointer (some ⟨ob, 0, none⟩), .pointer (some ⟨mb, 0, none⟩)] W fun e W' => e = .returned (.bool true) /\ St 123 bx mb sv W v W' (four.K.step x (.pointer (some ⟨mb, 0, none⟩)) rec ws).1 (four.K.step x (.pointer (some ⟨mb, 0, none⟩)) rec ws).2.1 (four.K.step x (.pointer (some ⟨mb, 0, none⟩)) rec ws).2.2 (n + 1) := by
 have c0 : W.cell? ⟨ob, 0, none⟩ = some (.int .i64 1) := hb.cell rfl
 have c1 : W.cell? ⟨ob, 1, none⟩ = some (.pointer (some ⟨bx, 0, none⟩)) := hb.cell rfl
 have c2 : W.cell? ⟨ob, 2, none⟩ = some (.pointer none) := hb.cell rfl
 have c3 : W.cell? ⟨ob, 3, none⟩ = some (.pointer none) := hb.cell rfl
 have c4 : W.cell? ⟨ob, 4, none⟩ = some (.pointer none) := hb.cell rfl
 have c5 : W.cell? ⟨ob, 5, none⟩ = some (.pointer none) := hb.cell rfl
 have c6 : W.cell? ⟨ob, 6, none⟩ = some (.pointer none) := hb.cell rfl
 have HS := hid (four.Step_yes hI hs ho hn (St.start h))
 clear hT h0 hb hI hs ho hn h
 go_enter Tryz.func38, Tryz.ntmps38
 go_wp2_with (go_at_call 62; refine HS.out.mono ?_; rintro e w1 ⟨rfl, hx⟩; have H1 := hid hx; clear hx)
 go_ret
 exact ⟨rfl, H1.out⟩
set_option maxHeartbeats 2000000 in
theorem over_four {ob bx mb : Nat} {sv v : Value} {W : World} {x : Core} {rec ws : List Int} {n : Int} (hb : Blk W ob (opCells 1 bx) 102) (h : Pair 123 bx mb sv W x v rec ws n) :
 Calls Tryz.prog 39 #[.pointer (some ⟨ob, 0, none⟩)] W fun e W' => e = .returned (.bool x.over) /\ W = W' := by
 have c0 : W.cell? ⟨ob, 0, none⟩ = some (.int .i64 1) := hb.cell rfl
 have c1 : W.cell? ⟨ob, 1, none⟩ = some (.pointer (some ⟨bx, 0, none⟩)) := hb.cell rfl
 have c2 : W.cell? ⟨ob, 2, none⟩ = some (.pointer none) := hb.cell rfl
 have c3 : W.cell? ⟨ob, 3, none⟩ = some (.pointer none) := hb.cell rfl
 have c4 : W.cell? ⟨ob, 4, none⟩ = some (.pointer none) := hb.cell rfl
 have c5 : W.cell? ⟨ob, 5, none⟩ = some (.pointer none) := hb.cell rfl
 have c6 : W.cell? ⟨ob, 6, none⟩ = some (.pointer none) := hb.cell rfl
 have HS := hid (four.Over_any (St.start h))
 obtain ⟨b, hbv⟩ : ∃ b, x.over = b := ⟨_, rfl⟩
 rw [hbv] at HS ⊢
 clear hb h hbv
 cases b
 all_goals
  go_enter Tryz.func39, Tryz.ntmps39
  go_wp2_with (first | (go_at_call 68; refine HS.out.mono ?_; rintro e w1 ⟨rfl, rfl⟩) | (go_at_call 69; refine (chen.Over_nil _).mono ?_; rintro e w1 ⟨rfl, rfl⟩) | (go_at_call 70; refine (seq.Over_nil _).mono ?_; rintro e w1 ⟨rfl, rfl⟩) | (go_at_call 71; refine (ring.Over_nil _).mono ?_; rintro e w1 ⟨rfl, rfl⟩) | (go_at_call 72; refine (cab.Over_nil _).mono ?_; rintro e w1 ⟨rfl, rfl⟩) | (go_at_call 73; refine (fifo.Over_nil _).mono ?_; rintro e w1 ⟨rfl, rfl⟩))
  go_ret
  exact ⟨rfl, rfl⟩
set_option maxHeartbeats 2000000 in
theorem answer_four {ob bx mb : Nat} {sv v : Value} {W : World} {x : Core} {rec ws : List Int} {n : Int} (hb : Blk W ob (opCells 1 bx) 102) (h : Pair 123 bx mb sv W x v rec ws n) (ho : x.over = true) :
 Calls Tryz.prog 40 #[.pointer (some ⟨ob, 0, none⟩)] W fun e W' => ∃ v', e = .returned (.tuple #[v', .int .i64 x.code]) /\ OwnW W' W.heap.size v' rec /\ Chg [] W W' := by
 have c0 : W.cell? ⟨ob, 0, none⟩ = some (.int .i64 1) := hb.cell rfl
 have c1 : W.cell? ⟨ob, 1, none⟩ = some (.pointer (some ⟨bx, 0, none⟩)) := hb.cell rfl
 have c2 : W.cell? ⟨ob, 2, none⟩ = some (.pointer none) := hb.cell rfl
 have c3 : W.cell? ⟨ob, 3, none⟩ = some (.pointer none) := hb.cell rfl
 have c4 : W.cell? ⟨ob, 4, none⟩ = some (.pointer none) := hb.cell rfl
 have c5 : W.cell? ⟨ob, 5, none⟩ = some (.pointer none) := hb.cell rfl
 have c6 : W.cell? ⟨ob, 6, none⟩ = some (.pointer none) := hb.cell rfl
 have HS := hid (four.Answer_any h)
 rw [ho, if_pos rfl, if_pos rfl] at HS
 clear hb h ho
 go_enter Tryz.func40, Tryz.ntmps40
 go_wp2_with (go_at_call 74; refine HS.out.mono ?_; rintro e w1 ⟨v', rfl, hw, hc⟩; have H1 := hid (⟨hw, hc⟩ : _ /\ _); clear hw hc)
 go_ret2
 exact ⟨_, rfl, H1.out.1, H1.out.2⟩
set_option maxHeartbeats 4000000 in
theorem begin_four (k w s c st : Int) (ia : Option Addr) (il ic : Nat) (wr : Int) (ra : Option Addr) (rl rc : Nat) (op rd_ : Int) (rv : Value) (rec : List Int) (W : World) (hk : k = 1) (hO : ObjW k w s c st il rl) (hr : ReadsW W rv rec) (hl : rec.length <= 1000) (hb : begI w rl (rop.sizeI k w s c st il rl) 0 op rd_ 2 1 rec.length = 0) :
 Calls Tryz.prog 60 #[.agg #[.int .i64 k, .int .i64 w, .int .i64 s, .int .i64 c, .int .u32 st, .slice ia il ic, .int .i64 wr, .slice ra rl rc], .int .i64 0, .int .i64 op, .int .i64 rd_, rv] W fun e W' => ∃ ob bx v', e = .returned (.tuple #[.pointer (some ⟨ob, 0, none⟩), .int .i64 0]) /\ Blk W' ob (opCells 1 bx) 102 /\ Blk W' bx ((freshC k w s c st ia il ic wr ra rl rc (rop.sizeI k w s c st il rl) op rd_).cells v') 123 /\ OwnW W' W.heap.size v' rec /\ (∀ y, v'.ownBlock = some y -> y ≠ bx /\ y ≠ ob) /\ (W.heap.size <= ob /\ W.heap.size <= bx /\ ob ≠ bx) /\ Chg [] W W' := by
 subst hk
 obtain ⟨W1, hW1⟩ : ∃ z, W.alloc (.cells #[.int .i64 1, .int .i64 w, .int .i64 s, .int .i64 c, .int .u32 st, .slice ia il ic, .int .i64 wr, .slice ra rl rc] 26) = z := ⟨_, rfl⟩
 have hc1 : Chg [] W W1 := by rw [<- hW1]; exact (Chg.refl [] W).alloc _
 have HB1 : Hid (Blk W1 W.heap.size #[.int .i64 1, .int .i64 w, .int .i64 s, .int .i64 c, .int .u32 st, .slice ia il ic, .int .i64 wr, .slice ra rl rc] 26) := hid (by rw [<- hW1]; exact Blk.new W _ _)
 obtain ⟨W2, hW2⟩ : ∃ z, W1.alloc (.cells #[.int .i64 1, .pointer none, .pointer none, .pointer none, .pointer none, .pointer none, .pointer none] 102) = z := ⟨_, rfl⟩
 have hc2 : Chg [] W1 W2 := by rw [<- hW2]; exact (Chg.refl [] W1).alloc _
 have HB2 : Hid (Blk W2 W1.heap.size #[.int .i64 1, .pointer none, .pointer none, .pointer none, .pointer none, .pointer none, .pointer none] 102) := hid (by rw [<- hW2]; exact Blk.new W1 _ _)
 have hs1 : W1.heap.size = W.heap.size + 1 := by rw [<- hW1]; simp
 have hs2 : W2.heap.size = W1.heap.size + 1 := by rw [<- hW2]; simp
 have HC2 : Hid (Chg [] W W2) := hid (hc1.trans hc2)
 have hO1 := HB1.out.keep hc2 (by simp)
 have e0 := hO1.cell (o := 0) rfl
 have d0 := HB1.out.cell (o := 0) rfl
 have e1 := hO1.cell (o := 1) rfl
 have d1 := HB1.out.cell (o := 1) rfl
 have e2 := hO1.cell (o := 2) rfl
 have d2 := HB1.out.cell (o := 2) rfl
 have e3 := hO1.cell (o := 3) rfl
 have d3 := HB1.out.cell (o := 3) rfl
 have e4 := hO1.cell (o := 4) rfl
 have d4 := HB1.out.cell (o := 4) rfl
 have e5 := hO1.cell (o := 5) rfl
 have d5 := HB1.out.cell (o := 5) rfl
 have e6 := hO1.cell (o := 6) rfl
 have d6 := HB1.out.cell (o := 6) rfl
 have e7 := hO1.cell (o := 7) rfl
 have d7 := HB1.out.cell (o := 7) rfl
 have HBE := hid (fun V (hV : ReadsW V rv rec) => four.Begin_yes 1 w s c st ia il ic wr ra rl rc 0 op rd_ (rop.sizeI 1 w s c st il rl) rv rec V hV hl (fun V => by have := lay.size_four 1 w s c st ia il ic wr ra rl rc hO V; rwa [if_pos rfl] at this) hb)
 have HR := hid (hr.chg HC2.out)
 have HSZ : Hid (W1.heap.size = W.heap.size + 1 /\ W2.heap.size = W1.heap.size + 1) := hid ⟨hs1, hs2⟩
 obtain ⟨ob, hob⟩ : ∃ z, W1.heap.size = z := ⟨_, rfl⟩
 rw [hob] at HB2 HSZ
 obtain ⟨rva, rvc, rfl, _⟩ := reads_slice hr.1
 clear hO hr hl hb hc1 hc2 hs1 hs2 hO1
 go_enter Tryz.func60, Tryz.ntmps60
 go_wp2_with (go_at_call 98; (try rw [hW1]); (try rw [hW2]); refine (HBE.out _ HR.out).mono ?_; rintro e w3 ⟨bx, v', rfl, hb3, ho3, hn3, hg3, hc3⟩; have HB3 := hid hb3; have HO3 := hid (⟨ho3, hn3, hg3⟩ : _ /\ _ /\ _); have HC3 := hid hc3; have HBK := hid (HB2.out.keep hc3 (by simp)); have g1 := (HB2.out.keep hc3 (by simp)).cell (o := 1) rfl; have f1 := (HB2.out.keep hc3 (by simp)).free 1; clear hb3 ho3 hn3 hg3 hc3)
 go_ret2
 have h1 := HO3.out.2.2
 have h2 := HSZ.out
 have hcs : Chg [ob] w3 (w3.setCell ⟨ob, 1, none⟩ (.pointer (some ⟨bx, 0, none⟩))) := (Chg.refl _ _).setCell (.inl (by simp)) _
 have hge : ∀ y, v'.ownBlock = some y -> W2.heap.size <= y := fun y hy => own_ge HO3.out.1 y hy
 refine ⟨ob, bx, v', rfl, HBK.out.set 1 _, HB3.out.keep hcs (fun hm => by have := List.mem_singleton.1 hm; omega), mem.own_chg (mem.own_base HO3.out.1 (by have := HC2.out.size; omega)) hcs (fun y hy hm => by have := hge y hy; have := List.mem_singleton.1 hm; omega), fun y hy => ⟨HO3.out.2.1 y hy, by have := hge y hy; omega⟩, ⟨by omega, by omega, by omega⟩, (HC2.out.trans HC3.out).setCell (.inr (show W.heap.size <= ob by omega)) _⟩
set_option maxHeartbeats 2000000 in
theorem step_chen {ob bx mb : Nat} {sv v : Value} {W : World} {x : Core} {rec ws : List Int} {n : Int} (hT : bitm.Tab W) (h0 : 0 ∉ bx :: mb :: (sv.ownBlock.toList ++ v.ownBlock.toList)) (hb : Blk W ob (opCells 2 bx) 102) (hI : chen.Shape x rec) (hs : 0 <= x.steps /\ x.steps <= 1000000) (ho : opens x ws.length = true) (hn : 0 <= n /\ n <= 1000000) (h : Pair 124 bx mb sv W x v rec ws n) :
 Calls Tryz.prog 38 #[.pointer (some ⟨ob, 0, none⟩), .pointer (some ⟨mb, 0, none⟩)] W fun e W' => e = .returned (.bool true) /\ St 124 bx mb sv W v W' (chen.K.step x (.pointer (some ⟨mb, 0, none⟩)) rec ws).1 (chen.K.step x (.pointer (some ⟨mb, 0, none⟩)) rec ws).2.1 (chen.K.step x (.pointer (some ⟨mb, 0, none⟩)) rec ws).2.2 (n + 1) := by
 have c0 : W.cell? ⟨ob, 0, none⟩ = some (.int .i64 2) := hb.cell rfl
 have c1 : W.cell? ⟨ob, 1, none⟩ = some (.pointer none) := hb.cell rfl
 have c2 : W.cell? ⟨ob, 2, none⟩ = some (.pointer (some ⟨bx, 0, none⟩)) := hb.cell rfl
 have c3 : W.cell? ⟨ob, 3, none⟩ = some (.pointer none) := hb.cell rfl
 have c4 : W.cell? ⟨ob, 4, none⟩ = some (.pointer none) := hb.cell rfl
 have c5 : W.cell? ⟨ob, 5, none⟩ = some (.pointer none) := hb.cell rfl
 have c6 : W.cell? ⟨ob, 6, none⟩ = some (.pointer none) := hb.cell rfl
 have HS := hid (chen.Step_yes (fun V x' rec' ws' n' hs => tab_st hT h0 hs) hI hs ho hn (St.start h))
 clear hT h0 hb hI hs ho hn h
 go_enter Tryz.func38, Tryz.ntmps38
 go_wp2_with (go_at_call 63; refine HS.out.mono ?_; rintro e w1 ⟨rfl, hx⟩; have H1 := hid hx; clear hx)
 go_ret
 exact ⟨rfl, H1.out⟩
set_option maxHeartbeats 2000000 in
theorem over_chen {ob bx mb : Nat} {sv v : Value} {W : World} {x : Core} {rec ws : List Int} {n : Int} (hb : Blk W ob (opCells 2 bx) 102) (h : Pair 124 bx mb sv W x v rec ws n) :
 Calls Tryz.prog 39 #[.pointer (some ⟨ob, 0, none⟩)] W fun e W' => e = .returned (.bool x.over) /\ W = W' := by
 have c0 : W.cell? ⟨ob, 0, none⟩ = some (.int .i64 2) := hb.cell rfl
 have c1 : W.cell? ⟨ob, 1, none⟩ = some (.pointer none) := hb.cell rfl
 have c2 : W.cell? ⟨ob, 2, none⟩ = some (.pointer (some ⟨bx, 0, none⟩)) := hb.cell rfl
 have c3 : W.cell? ⟨ob, 3, none⟩ = some (.pointer none) := hb.cell rfl
 have c4 : W.cell? ⟨ob, 4, none⟩ = some (.pointer none) := hb.cell rfl
 have c5 : W.cell? ⟨ob, 5, none⟩ = some (.pointer none) := hb.cell rfl
 have c6 : W.cell? ⟨ob, 6, none⟩ = some (.pointer none) := hb.cell rfl
 have HS := hid (chen.Over_any (St.start h))
 obtain ⟨b, hbv⟩ : ∃ b, x.over = b := ⟨_, rfl⟩
 rw [hbv] at HS ⊢
 clear hb h hbv
 cases b
 all_goals
  go_enter Tryz.func39, Tryz.ntmps39
  go_wp2_with (first | (go_at_call 68; refine (four.Over_nil _).mono ?_; rintro e w1 ⟨rfl, rfl⟩) | (go_at_call 69; refine HS.out.mono ?_; rintro e w1 ⟨rfl, rfl⟩) | (go_at_call 70; refine (seq.Over_nil _).mono ?_; rintro e w1 ⟨rfl, rfl⟩) | (go_at_call 71; refine (ring.Over_nil _).mono ?_; rintro e w1 ⟨rfl, rfl⟩) | (go_at_call 72; refine (cab.Over_nil _).mono ?_; rintro e w1 ⟨rfl, rfl⟩) | (go_at_call 73; refine (fifo.Over_nil _).mono ?_; rintro e w1 ⟨rfl, rfl⟩))
  go_ret
  exact ⟨rfl, rfl⟩
set_option maxHeartbeats 2000000 in
theorem answer_chen {ob bx mb : Nat} {sv v : Value} {W : World} {x : Core} {rec ws : List Int} {n : Int} (hb : Blk W ob (opCells 2 bx) 102) (h : Pair 124 bx mb sv W x v rec ws n) (ho : x.over = true) :
 Calls Tryz.prog 40 #[.pointer (some ⟨ob, 0, none⟩)] W fun e W' => ∃ v', e = .returned (.tuple #[v', .int .i64 x.code]) /\ OwnW W' W.heap.size v' rec /\ Chg [] W W' := by
 have c0 : W.cell? ⟨ob, 0, none⟩ = some (.int .i64 2) := hb.cell rfl
 have c1 : W.cell? ⟨ob, 1, none⟩ = some (.pointer none) := hb.cell rfl
 have c2 : W.cell? ⟨ob, 2, none⟩ = some (.pointer (some ⟨bx, 0, none⟩)) := hb.cell rfl
 have c3 : W.cell? ⟨ob, 3, none⟩ = some (.pointer none) := hb.cell rfl
 have c4 : W.cell? ⟨ob, 4, none⟩ = some (.pointer none) := hb.cell rfl
 have c5 : W.cell? ⟨ob, 5, none⟩ = some (.pointer none) := hb.cell rfl
 have c6 : W.cell? ⟨ob, 6, none⟩ = some (.pointer none) := hb.cell rfl
 have HS := hid (chen.Answer_any h)
 rw [ho, if_pos rfl, if_pos rfl] at HS
 clear hb h ho
 go_enter Tryz.func40, Tryz.ntmps40
 go_wp2_with (go_at_call 75; refine HS.out.mono ?_; rintro e w1 ⟨v', rfl, hw, hc⟩; have H1 := hid (⟨hw, hc⟩ : _ /\ _); clear hw hc)
 go_ret2
 exact ⟨_, rfl, H1.out.1, H1.out.2⟩
set_option maxHeartbeats 4000000 in
theorem begin_chen (k w s c st : Int) (ia : Option Addr) (il ic : Nat) (wr : Int) (ra : Option Addr) (rl rc : Nat) (op rd_ : Int) (rv : Value) (rec : List Int) (W : World) (hk : k = 2) (hO : ObjW k w s c st il rl) (hr : ReadsW W rv rec) (hl : rec.length <= 1000) (hb : begI w rl (rop.sizeI k w s c st il rl) 0 op rd_ 2 1 rec.length = 0) :
 Calls Tryz.prog 60 #[.agg #[.int .i64 k, .int .i64 w, .int .i64 s, .int .i64 c, .int .u32 st, .slice ia il ic, .int .i64 wr, .slice ra rl rc], .int .i64 0, .int .i64 op, .int .i64 rd_, rv] W fun e W' => ∃ ob bx v', e = .returned (.tuple #[.pointer (some ⟨ob, 0, none⟩), .int .i64 0]) /\ Blk W' ob (opCells 2 bx) 102 /\ Blk W' bx ((freshC k w s c st ia il ic wr ra rl rc (rop.sizeI k w s c st il rl) op rd_).cells v') 124 /\ OwnW W' W.heap.size v' rec /\ (∀ y, v'.ownBlock = some y -> y ≠ bx /\ y ≠ ob) /\ (W.heap.size <= ob /\ W.heap.size <= bx /\ ob ≠ bx) /\ Chg [] W W' := by
 subst hk
 obtain ⟨W1, hW1⟩ : ∃ z, W.alloc (.cells #[.int .i64 2, .int .i64 w, .int .i64 s, .int .i64 c, .int .u32 st, .slice ia il ic, .int .i64 wr, .slice ra rl rc] 26) = z := ⟨_, rfl⟩
 have hc1 : Chg [] W W1 := by rw [<- hW1]; exact (Chg.refl [] W).alloc _
 have HB1 : Hid (Blk W1 W.heap.size #[.int .i64 2, .int .i64 w, .int .i64 s, .int .i64 c, .int .u32 st, .slice ia il ic, .int .i64 wr, .slice ra rl rc] 26) := hid (by rw [<- hW1]; exact Blk.new W _ _)
 obtain ⟨W2, hW2⟩ : ∃ z, W1.alloc (.cells #[.int .i64 2, .pointer none, .pointer none, .pointer none, .pointer none, .pointer none, .pointer none] 102) = z := ⟨_, rfl⟩
 have hc2 : Chg [] W1 W2 := by rw [<- hW2]; exact (Chg.refl [] W1).alloc _
 have HB2 : Hid (Blk W2 W1.heap.size #[.int .i64 2, .pointer none, .pointer none, .pointer none, .pointer none, .pointer none, .pointer none] 102) := hid (by rw [<- hW2]; exact Blk.new W1 _ _)
 have hs1 : W1.heap.size = W.heap.size + 1 := by rw [<- hW1]; simp
 have hs2 : W2.heap.size = W1.heap.size + 1 := by rw [<- hW2]; simp
 have HC2 : Hid (Chg [] W W2) := hid (hc1.trans hc2)
 have hO1 := HB1.out.keep hc2 (by simp)
 have e0 := hO1.cell (o := 0) rfl
 have d0 := HB1.out.cell (o := 0) rfl
 have e1 := hO1.cell (o := 1) rfl
 have d1 := HB1.out.cell (o := 1) rfl
 have e2 := hO1.cell (o := 2) rfl
 have d2 := HB1.out.cell (o := 2) rfl
 have e3 := hO1.cell (o := 3) rfl
 have d3 := HB1.out.cell (o := 3) rfl
 have e4 := hO1.cell (o := 4) rfl
 have d4 := HB1.out.cell (o := 4) rfl
 have e5 := hO1.cell (o := 5) rfl
 have d5 := HB1.out.cell (o := 5) rfl
 have e6 := hO1.cell (o := 6) rfl
 have d6 := HB1.out.cell (o := 6) rfl
 have e7 := hO1.cell (o := 7) rfl
 have d7 := HB1.out.cell (o := 7) rfl
 have HBE := hid (fun V (hV : ReadsW V rv rec) => chen.Begin_yes 2 w s c st ia il ic wr ra rl rc 0 op rd_ (rop.sizeI 2 w s c st il rl) rv rec V hV hl (fun V => by have := lay.size_chen 2 w s c st ia il ic wr ra rl rc hO V; rwa [if_pos rfl] at this) hb)
 have HR := hid (hr.chg HC2.out)
 have HSZ : Hid (W1.heap.size = W.heap.size + 1 /\ W2.heap.size = W1.heap.size + 1) := hid ⟨hs1, hs2⟩
 obtain ⟨ob, hob⟩ : ∃ z, W1.heap.size = z := ⟨_, rfl⟩
 rw [hob] at HB2 HSZ
 obtain ⟨rva, rvc, rfl, _⟩ := reads_slice hr.1
 clear hO hr hl hb hc1 hc2 hs1 hs2 hO1
 go_enter Tryz.func60, Tryz.ntmps60
 go_wp2_with (go_at_call 99; (try rw [hW1]); (try rw [hW2]); refine (HBE.out _ HR.out).mono ?_; rintro e w3 ⟨bx, v', rfl, hb3, ho3, hn3, hg3, hc3⟩; have HB3 := hid hb3; have HO3 := hid (⟨ho3, hn3, hg3⟩ : _ /\ _ /\ _); have HC3 := hid hc3; have HBK := hid (HB2.out.keep hc3 (by simp)); have g2 := (HB2.out.keep hc3 (by simp)).cell (o := 2) rfl; have f2 := (HB2.out.keep hc3 (by simp)).free 2; clear hb3 ho3 hn3 hg3 hc3)
 go_ret2
 have h1 := HO3.out.2.2
 have h2 := HSZ.out
 have hcs : Chg [ob] w3 (w3.setCell ⟨ob, 2, none⟩ (.pointer (some ⟨bx, 0, none⟩))) := (Chg.refl _ _).setCell (.inl (by simp)) _
 have hge : ∀ y, v'.ownBlock = some y -> W2.heap.size <= y := fun y hy => own_ge HO3.out.1 y hy
 refine ⟨ob, bx, v', rfl, HBK.out.set 2 _, HB3.out.keep hcs (fun hm => by have := List.mem_singleton.1 hm; omega), mem.own_chg (mem.own_base HO3.out.1 (by have := HC2.out.size; omega)) hcs (fun y hy hm => by have := hge y hy; have := List.mem_singleton.1 hm; omega), fun y hy => ⟨HO3.out.2.1 y hy, by have := hge y hy; omega⟩, ⟨by omega, by omega, by omega⟩, (HC2.out.trans HC3.out).setCell (.inr (show W.heap.size <= ob by omega)) _⟩
set_option maxHeartbeats 2000000 in
theorem step_seq {ob bx mb : Nat} {sv v : Value} {W : World} {x : Core} {rec ws : List Int} {n : Int} (hT : bitm.Tab W) (h0 : 0 ∉ bx :: mb :: (sv.ownBlock.toList ++ v.ownBlock.toList)) (hb : Blk W ob (opCells 3 bx) 102) (hI : seq.Shape x rec) (hs : 0 <= x.steps /\ x.steps <= 1000000) (ho : opens x ws.length = true) (hn : 0 <= n /\ n <= 1000000) (h : Pair 125 bx mb sv W x v rec ws n) :
 Calls Tryz.prog 38 #[.pointer (some ⟨ob, 0, none⟩), .pointer (some ⟨mb, 0, none⟩)] W fun e W' => e = .returned (.bool true) /\ St 125 bx mb sv W v W' (seq.K.step x (.pointer (some ⟨mb, 0, none⟩)) rec ws).1 (seq.K.step x (.pointer (some ⟨mb, 0, none⟩)) rec ws).2.1 (seq.K.step x (.pointer (some ⟨mb, 0, none⟩)) rec ws).2.2 (n + 1) := by
 have c0 : W.cell? ⟨ob, 0, none⟩ = some (.int .i64 3) := hb.cell rfl
 have c1 : W.cell? ⟨ob, 1, none⟩ = some (.pointer none) := hb.cell rfl
 have c2 : W.cell? ⟨ob, 2, none⟩ = some (.pointer none) := hb.cell rfl
 have c3 : W.cell? ⟨ob, 3, none⟩ = some (.pointer (some ⟨bx, 0, none⟩)) := hb.cell rfl
 have c4 : W.cell? ⟨ob, 4, none⟩ = some (.pointer none) := hb.cell rfl
 have c5 : W.cell? ⟨ob, 5, none⟩ = some (.pointer none) := hb.cell rfl
 have c6 : W.cell? ⟨ob, 6, none⟩ = some (.pointer none) := hb.cell rfl
 have HS := hid (seq.Step_yes hI hs ho hn (St.start h))
 clear hT h0 hb hI hs ho hn h
 go_enter Tryz.func38, Tryz.ntmps38
 go_wp2_with (go_at_call 64; refine HS.out.mono ?_; rintro e w1 ⟨rfl, hx⟩; have H1 := hid hx; clear hx)
 go_ret
 exact ⟨rfl, H1.out⟩
set_option maxHeartbeats 2000000 in
theorem over_seq {ob bx mb : Nat} {sv v : Value} {W : World} {x : Core} {rec ws : List Int} {n : Int} (hb : Blk W ob (opCells 3 bx) 102) (h : Pair 125 bx mb sv W x v rec ws n) :
 Calls Tryz.prog 39 #[.pointer (some ⟨ob, 0, none⟩)] W fun e W' => e = .returned (.bool x.over) /\ W = W' := by
 have c0 : W.cell? ⟨ob, 0, none⟩ = some (.int .i64 3) := hb.cell rfl
 have c1 : W.cell? ⟨ob, 1, none⟩ = some (.pointer none) := hb.cell rfl
 have c2 : W.cell? ⟨ob, 2, none⟩ = some (.pointer none) := hb.cell rfl
 have c3 : W.cell? ⟨ob, 3, none⟩ = some (.pointer (some ⟨bx, 0, none⟩)) := hb.cell rfl
 have c4 : W.cell? ⟨ob, 4, none⟩ = some (.pointer none) := hb.cell rfl
 have c5 : W.cell? ⟨ob, 5, none⟩ = some (.pointer none) := hb.cell rfl
 have c6 : W.cell? ⟨ob, 6, none⟩ = some (.pointer none) := hb.cell rfl
 have HS := hid (seq.Over_any (St.start h))
 obtain ⟨b, hbv⟩ : ∃ b, x.over = b := ⟨_, rfl⟩
 rw [hbv] at HS ⊢
 clear hb h hbv
 cases b
 all_goals
  go_enter Tryz.func39, Tryz.ntmps39
  go_wp2_with (first | (go_at_call 68; refine (four.Over_nil _).mono ?_; rintro e w1 ⟨rfl, rfl⟩) | (go_at_call 69; refine (chen.Over_nil _).mono ?_; rintro e w1 ⟨rfl, rfl⟩) | (go_at_call 70; refine HS.out.mono ?_; rintro e w1 ⟨rfl, rfl⟩) | (go_at_call 71; refine (ring.Over_nil _).mono ?_; rintro e w1 ⟨rfl, rfl⟩) | (go_at_call 72; refine (cab.Over_nil _).mono ?_; rintro e w1 ⟨rfl, rfl⟩) | (go_at_call 73; refine (fifo.Over_nil _).mono ?_; rintro e w1 ⟨rfl, rfl⟩))
  go_ret
  exact ⟨rfl, rfl⟩
set_option maxHeartbeats 2000000 in
theorem answer_seq {ob bx mb : Nat} {sv v : Value} {W : World} {x : Core} {rec ws : List Int} {n : Int} (hb : Blk W ob (opCells 3 bx) 102) (h : Pair 125 bx mb sv W x v rec ws n) (ho : x.over = true) :
 Calls Tryz.prog 40 #[.pointer (some ⟨ob, 0, none⟩)] W fun e W' => ∃ v', e = .returned (.tuple #[v', .int .i64 x.code]) /\ OwnW W' W.heap.size v' rec /\ Chg [] W W' := by
 have c0 : W.cell? ⟨ob, 0, none⟩ = some (.int .i64 3) := hb.cell rfl
 have c1 : W.cell? ⟨ob, 1, none⟩ = some (.pointer none) := hb.cell rfl
 have c2 : W.cell? ⟨ob, 2, none⟩ = some (.pointer none) := hb.cell rfl
 have c3 : W.cell? ⟨ob, 3, none⟩ = some (.pointer (some ⟨bx, 0, none⟩)) := hb.cell rfl
 have c4 : W.cell? ⟨ob, 4, none⟩ = some (.pointer none) := hb.cell rfl
 have c5 : W.cell? ⟨ob, 5, none⟩ = some (.pointer none) := hb.cell rfl
 have c6 : W.cell? ⟨ob, 6, none⟩ = some (.pointer none) := hb.cell rfl
 have HS := hid (seq.Answer_any h)
 rw [ho, if_pos rfl, if_pos rfl] at HS
 clear hb h ho
 go_enter Tryz.func40, Tryz.ntmps40
 go_wp2_with (go_at_call 76; refine HS.out.mono ?_; rintro e w1 ⟨v', rfl, hw, hc⟩; have H1 := hid (⟨hw, hc⟩ : _ /\ _); clear hw hc)
 go_ret2
 exact ⟨_, rfl, H1.out.1, H1.out.2⟩
set_option maxHeartbeats 4000000 in
theorem begin_seq (k w s c st : Int) (ia : Option Addr) (il ic : Nat) (wr : Int) (ra : Option Addr) (rl rc : Nat) (op rd_ : Int) (rv : Value) (rec : List Int) (W : World) (hk : k = 3) (hO : ObjW k w s c st il rl) (hr : ReadsW W rv rec) (hl : rec.length <= 1000) (hb : begI w rl (rop.sizeI k w s c st il rl) 0 op rd_ 2 1 rec.length = 0) :
 Calls Tryz.prog 60 #[.agg #[.int .i64 k, .int .i64 w, .int .i64 s, .int .i64 c, .int .u32 st, .slice ia il ic, .int .i64 wr, .slice ra rl rc], .int .i64 0, .int .i64 op, .int .i64 rd_, rv] W fun e W' => ∃ ob bx v', e = .returned (.tuple #[.pointer (some ⟨ob, 0, none⟩), .int .i64 0]) /\ Blk W' ob (opCells 3 bx) 102 /\ Blk W' bx ((freshC k w s c st ia il ic wr ra rl rc (rop.sizeI k w s c st il rl) op rd_).cells v') 125 /\ OwnW W' W.heap.size v' rec /\ (∀ y, v'.ownBlock = some y -> y ≠ bx /\ y ≠ ob) /\ (W.heap.size <= ob /\ W.heap.size <= bx /\ ob ≠ bx) /\ Chg [] W W' := by
 subst hk
 obtain ⟨W1, hW1⟩ : ∃ z, W.alloc (.cells #[.int .i64 3, .int .i64 w, .int .i64 s, .int .i64 c, .int .u32 st, .slice ia il ic, .int .i64 wr, .slice ra rl rc] 26) = z := ⟨_, rfl⟩
 have hc1 : Chg [] W W1 := by rw [<- hW1]; exact (Chg.refl [] W).alloc _
 have HB1 : Hid (Blk W1 W.heap.size #[.int .i64 3, .int .i64 w, .int .i64 s, .int .i64 c, .int .u32 st, .slice ia il ic, .int .i64 wr, .slice ra rl rc] 26) := hid (by rw [<- hW1]; exact Blk.new W _ _)
 obtain ⟨W2, hW2⟩ : ∃ z, W1.alloc (.cells #[.int .i64 3, .pointer none, .pointer none, .pointer none, .pointer none, .pointer none, .pointer none] 102) = z := ⟨_, rfl⟩
 have hc2 : Chg [] W1 W2 := by rw [<- hW2]; exact (Chg.refl [] W1).alloc _
 have HB2 : Hid (Blk W2 W1.heap.size #[.int .i64 3, .pointer none, .pointer none, .pointer none, .pointer none, .pointer none, .pointer none] 102) := hid (by rw [<- hW2]; exact Blk.new W1 _ _)
 have hs1 : W1.heap.size = W.heap.size + 1 := by rw [<- hW1]; simp
 have hs2 : W2.heap.size = W1.heap.size + 1 := by rw [<- hW2]; simp
 have HC2 : Hid (Chg [] W W2) := hid (hc1.trans hc2)
 have hO1 := HB1.out.keep hc2 (by simp)
 have e0 := hO1.cell (o := 0) rfl
 have d0 := HB1.out.cell (o := 0) rfl
 have e1 := hO1.cell (o := 1) rfl
 have d1 := HB1.out.cell (o := 1) rfl
 have e2 := hO1.cell (o := 2) rfl
 have d2 := HB1.out.cell (o := 2) rfl
 have e3 := hO1.cell (o := 3) rfl
 have d3 := HB1.out.cell (o := 3) rfl
 have e4 := hO1.cell (o := 4) rfl
 have d4 := HB1.out.cell (o := 4) rfl
 have e5 := hO1.cell (o := 5) rfl
 have d5 := HB1.out.cell (o := 5) rfl
 have e6 := hO1.cell (o := 6) rfl
 have d6 := HB1.out.cell (o := 6) rfl
 have e7 := hO1.cell (o := 7) rfl
 have d7 := HB1.out.cell (o := 7) rfl
 have HBE := hid (fun V (hV : ReadsW V rv rec) => seq.Begin_yes 3 w s c st ia il ic wr ra rl rc 0 op rd_ (rop.sizeI 3 w s c st il rl) rv rec V hV hl (fun V => by have := lay.size_seq 3 w s c st ia il ic wr ra rl rc hO V; rwa [if_pos rfl] at this) hb)
 have HR := hid (hr.chg HC2.out)
 have HSZ : Hid (W1.heap.size = W.heap.size + 1 /\ W2.heap.size = W1.heap.size + 1) := hid ⟨hs1, hs2⟩
 obtain ⟨ob, hob⟩ : ∃ z, W1.heap.size = z := ⟨_, rfl⟩
 rw [hob] at HB2 HSZ
 obtain ⟨rva, rvc, rfl, _⟩ := reads_slice hr.1
 clear hO hr hl hb hc1 hc2 hs1 hs2 hO1
 go_enter Tryz.func60, Tryz.ntmps60
 go_wp2_with (go_at_call 100; (try rw [hW1]); (try rw [hW2]); refine (HBE.out _ HR.out).mono ?_; rintro e w3 ⟨bx, v', rfl, hb3, ho3, hn3, hg3, hc3⟩; have HB3 := hid hb3; have HO3 := hid (⟨ho3, hn3, hg3⟩ : _ /\ _ /\ _); have HC3 := hid hc3; have HBK := hid (HB2.out.keep hc3 (by simp)); have g3 := (HB2.out.keep hc3 (by simp)).cell (o := 3) rfl; have f3 := (HB2.out.keep hc3 (by simp)).free 3; clear hb3 ho3 hn3 hg3 hc3)
 go_ret2
 have h1 := HO3.out.2.2
 have h2 := HSZ.out
 have hcs : Chg [ob] w3 (w3.setCell ⟨ob, 3, none⟩ (.pointer (some ⟨bx, 0, none⟩))) := (Chg.refl _ _).setCell (.inl (by simp)) _
 have hge : ∀ y, v'.ownBlock = some y -> W2.heap.size <= y := fun y hy => own_ge HO3.out.1 y hy
 refine ⟨ob, bx, v', rfl, HBK.out.set 3 _, HB3.out.keep hcs (fun hm => by have := List.mem_singleton.1 hm; omega), mem.own_chg (mem.own_base HO3.out.1 (by have := HC2.out.size; omega)) hcs (fun y hy hm => by have := hge y hy; have := List.mem_singleton.1 hm; omega), fun y hy => ⟨HO3.out.2.1 y hy, by have := hge y hy; omega⟩, ⟨by omega, by omega, by omega⟩, (HC2.out.trans HC3.out).setCell (.inr (show W.heap.size <= ob by omega)) _⟩
set_option maxHeartbeats 2000000 in
theorem step_ring {ob bx mb : Nat} {sv v : Value} {W : World} {x : Core} {rec ws : List Int} {n : Int} (hT : bitm.Tab W) (h0 : 0 ∉ bx :: mb :: (sv.ownBlock.toList ++ v.ownBlock.toList)) (hb : Blk W ob (opCells 4 bx) 102) (hI : ring.Shape x rec) (hs : 0 <= x.steps /\ x.steps <= 1000000) (ho : opens x ws.length = true) (hn : 0 <= n /\ n <= 1000000) (h : Pair 126 bx mb sv W x v rec ws n) :
 Calls Tryz.prog 38 #[.pointer (some ⟨ob, 0, none⟩), .pointer (some ⟨mb, 0, none⟩)] W fun e W' => e = .returned (.bool true) /\ St 126 bx mb sv W v W' (ring.K.step x (.pointer (some ⟨mb, 0, none⟩)) rec ws).1 (ring.K.step x (.pointer (some ⟨mb, 0, none⟩)) rec ws).2.1 (ring.K.step x (.pointer (some ⟨mb, 0, none⟩)) rec ws).2.2 (n + 1) := by
 have c0 : W.cell? ⟨ob, 0, none⟩ = some (.int .i64 4) := hb.cell rfl
 have c1 : W.cell? ⟨ob, 1, none⟩ = some (.pointer none) := hb.cell rfl
 have c2 : W.cell? ⟨ob, 2, none⟩ = some (.pointer none) := hb.cell rfl
 have c3 : W.cell? ⟨ob, 3, none⟩ = some (.pointer none) := hb.cell rfl
 have c4 : W.cell? ⟨ob, 4, none⟩ = some (.pointer (some ⟨bx, 0, none⟩)) := hb.cell rfl
 have c5 : W.cell? ⟨ob, 5, none⟩ = some (.pointer none) := hb.cell rfl
 have c6 : W.cell? ⟨ob, 6, none⟩ = some (.pointer none) := hb.cell rfl
 have HS := hid (ring.Step_yes hI hs ho hn (St.start h))
 clear hT h0 hb hI hs ho hn h
 go_enter Tryz.func38, Tryz.ntmps38
 go_wp2_with (go_at_call 65; refine HS.out.mono ?_; rintro e w1 ⟨rfl, hx⟩; have H1 := hid hx; clear hx)
 go_ret
 exact ⟨rfl, H1.out⟩
set_option maxHeartbeats 2000000 in
theorem over_ring {ob bx mb : Nat} {sv v : Value} {W : World} {x : Core} {rec ws : List Int} {n : Int} (hb : Blk W ob (opCells 4 bx) 102) (h : Pair 126 bx mb sv W x v rec ws n) :
 Calls Tryz.prog 39 #[.pointer (some ⟨ob, 0, none⟩)] W fun e W' => e = .returned (.bool x.over) /\ W = W' := by
 have c0 : W.cell? ⟨ob, 0, none⟩ = some (.int .i64 4) := hb.cell rfl
 have c1 : W.cell? ⟨ob, 1, none⟩ = some (.pointer none) := hb.cell rfl
 have c2 : W.cell? ⟨ob, 2, none⟩ = some (.pointer none) := hb.cell rfl
 have c3 : W.cell? ⟨ob, 3, none⟩ = some (.pointer none) := hb.cell rfl
 have c4 : W.cell? ⟨ob, 4, none⟩ = some (.pointer (some ⟨bx, 0, none⟩)) := hb.cell rfl
 have c5 : W.cell? ⟨ob, 5, none⟩ = some (.pointer none) := hb.cell rfl
 have c6 : W.cell? ⟨ob, 6, none⟩ = some (.pointer none) := hb.cell rfl
 have HS := hid (ring.Over_any (St.start h))
 obtain ⟨b, hbv⟩ : ∃ b, x.over = b := ⟨_, rfl⟩
 rw [hbv] at HS ⊢
 clear hb h hbv
 cases b
 all_goals
  go_enter Tryz.func39, Tryz.ntmps39
  go_wp2_with (first | (go_at_call 68; refine (four.Over_nil _).mono ?_; rintro e w1 ⟨rfl, rfl⟩) | (go_at_call 69; refine (chen.Over_nil _).mono ?_; rintro e w1 ⟨rfl, rfl⟩) | (go_at_call 70; refine (seq.Over_nil _).mono ?_; rintro e w1 ⟨rfl, rfl⟩) | (go_at_call 71; refine HS.out.mono ?_; rintro e w1 ⟨rfl, rfl⟩) | (go_at_call 72; refine (cab.Over_nil _).mono ?_; rintro e w1 ⟨rfl, rfl⟩) | (go_at_call 73; refine (fifo.Over_nil _).mono ?_; rintro e w1 ⟨rfl, rfl⟩))
  go_ret
  exact ⟨rfl, rfl⟩
set_option maxHeartbeats 2000000 in
theorem answer_ring {ob bx mb : Nat} {sv v : Value} {W : World} {x : Core} {rec ws : List Int} {n : Int} (hb : Blk W ob (opCells 4 bx) 102) (h : Pair 126 bx mb sv W x v rec ws n) (ho : x.over = true) :
 Calls Tryz.prog 40 #[.pointer (some ⟨ob, 0, none⟩)] W fun e W' => ∃ v', e = .returned (.tuple #[v', .int .i64 x.code]) /\ OwnW W' W.heap.size v' rec /\ Chg [] W W' := by
 have c0 : W.cell? ⟨ob, 0, none⟩ = some (.int .i64 4) := hb.cell rfl
 have c1 : W.cell? ⟨ob, 1, none⟩ = some (.pointer none) := hb.cell rfl
 have c2 : W.cell? ⟨ob, 2, none⟩ = some (.pointer none) := hb.cell rfl
 have c3 : W.cell? ⟨ob, 3, none⟩ = some (.pointer none) := hb.cell rfl
 have c4 : W.cell? ⟨ob, 4, none⟩ = some (.pointer (some ⟨bx, 0, none⟩)) := hb.cell rfl
 have c5 : W.cell? ⟨ob, 5, none⟩ = some (.pointer none) := hb.cell rfl
 have c6 : W.cell? ⟨ob, 6, none⟩ = some (.pointer none) := hb.cell rfl
 have HS := hid (ring.Answer_any h)
 rw [ho, if_pos rfl, if_pos rfl] at HS
 clear hb h ho
 go_enter Tryz.func40, Tryz.ntmps40
 go_wp2_with (go_at_call 77; refine HS.out.mono ?_; rintro e w1 ⟨v', rfl, hw, hc⟩; have H1 := hid (⟨hw, hc⟩ : _ /\ _); clear hw hc)
 go_ret2
 exact ⟨_, rfl, H1.out.1, H1.out.2⟩
set_option maxHeartbeats 4000000 in
theorem begin_ring (k w s c st : Int) (ia : Option Addr) (il ic : Nat) (wr : Int) (ra : Option Addr) (rl rc : Nat) (op rd_ : Int) (rv : Value) (rec : List Int) (W : World) (hk : k = 4) (hO : ObjW k w s c st il rl) (hr : ReadsW W rv rec) (hl : rec.length <= 1000) (hb : begI w rl (rop.sizeI k w s c st il rl) 0 op rd_ 2 1 rec.length = 0) :
 Calls Tryz.prog 60 #[.agg #[.int .i64 k, .int .i64 w, .int .i64 s, .int .i64 c, .int .u32 st, .slice ia il ic, .int .i64 wr, .slice ra rl rc], .int .i64 0, .int .i64 op, .int .i64 rd_, rv] W fun e W' => ∃ ob bx v', e = .returned (.tuple #[.pointer (some ⟨ob, 0, none⟩), .int .i64 0]) /\ Blk W' ob (opCells 4 bx) 102 /\ Blk W' bx ((freshC k w s c st ia il ic wr ra rl rc (rop.sizeI k w s c st il rl) op rd_).cells v') 126 /\ OwnW W' W.heap.size v' rec /\ (∀ y, v'.ownBlock = some y -> y ≠ bx /\ y ≠ ob) /\ (W.heap.size <= ob /\ W.heap.size <= bx /\ ob ≠ bx) /\ Chg [] W W' := by
 subst hk
 obtain ⟨W1, hW1⟩ : ∃ z, W.alloc (.cells #[.int .i64 4, .int .i64 w, .int .i64 s, .int .i64 c, .int .u32 st, .slice ia il ic, .int .i64 wr, .slice ra rl rc] 26) = z := ⟨_, rfl⟩
 have hc1 : Chg [] W W1 := by rw [<- hW1]; exact (Chg.refl [] W).alloc _
 have HB1 : Hid (Blk W1 W.heap.size #[.int .i64 4, .int .i64 w, .int .i64 s, .int .i64 c, .int .u32 st, .slice ia il ic, .int .i64 wr, .slice ra rl rc] 26) := hid (by rw [<- hW1]; exact Blk.new W _ _)
 obtain ⟨W2, hW2⟩ : ∃ z, W1.alloc (.cells #[.int .i64 4, .pointer none, .pointer none, .pointer none, .pointer none, .pointer none, .pointer none] 102) = z := ⟨_, rfl⟩
 have hc2 : Chg [] W1 W2 := by rw [<- hW2]; exact (Chg.refl [] W1).alloc _
 have HB2 : Hid (Blk W2 W1.heap.size #[.int .i64 4, .pointer none, .pointer none, .pointer none, .pointer none, .pointer none, .pointer none] 102) := hid (by rw [<- hW2]; exact Blk.new W1 _ _)
 have hs1 : W1.heap.size = W.heap.size + 1 := by rw [<- hW1]; simp
 have hs2 : W2.heap.size = W1.heap.size + 1 := by rw [<- hW2]; simp
 have HC2 : Hid (Chg [] W W2) := hid (hc1.trans hc2)
 have hO1 := HB1.out.keep hc2 (by simp)
 have e0 := hO1.cell (o := 0) rfl
 have d0 := HB1.out.cell (o := 0) rfl
 have e1 := hO1.cell (o := 1) rfl
 have d1 := HB1.out.cell (o := 1) rfl
 have e2 := hO1.cell (o := 2) rfl
 have d2 := HB1.out.cell (o := 2) rfl
 have e3 := hO1.cell (o := 3) rfl
 have d3 := HB1.out.cell (o := 3) rfl
 have e4 := hO1.cell (o := 4) rfl
 have d4 := HB1.out.cell (o := 4) rfl
 have e5 := hO1.cell (o := 5) rfl
 have d5 := HB1.out.cell (o := 5) rfl
 have e6 := hO1.cell (o := 6) rfl
 have d6 := HB1.out.cell (o := 6) rfl
 have e7 := hO1.cell (o := 7) rfl
 have d7 := HB1.out.cell (o := 7) rfl
 have HBE := hid (fun V (hV : ReadsW V rv rec) => ring.Begin_yes 4 w s c st ia il ic wr ra rl rc 0 op rd_ (rop.sizeI 4 w s c st il rl) rv rec V hV hl (fun V => by have := lay.size_ring 4 w s c st ia il ic wr ra rl rc hO V; rwa [if_pos rfl] at this) hb)
 have HR := hid (hr.chg HC2.out)
 have HSZ : Hid (W1.heap.size = W.heap.size + 1 /\ W2.heap.size = W1.heap.size + 1) := hid ⟨hs1, hs2⟩
 obtain ⟨ob, hob⟩ : ∃ z, W1.heap.size = z := ⟨_, rfl⟩
 rw [hob] at HB2 HSZ
 obtain ⟨rva, rvc, rfl, _⟩ := reads_slice hr.1
 clear hO hr hl hb hc1 hc2 hs1 hs2 hO1
 go_enter Tryz.func60, Tryz.ntmps60
 go_wp2_with (go_at_call 101; (try rw [hW1]); (try rw [hW2]); refine (HBE.out _ HR.out).mono ?_; rintro e w3 ⟨bx, v', rfl, hb3, ho3, hn3, hg3, hc3⟩; have HB3 := hid hb3; have HO3 := hid (⟨ho3, hn3, hg3⟩ : _ /\ _ /\ _); have HC3 := hid hc3; have HBK := hid (HB2.out.keep hc3 (by simp)); have g4 := (HB2.out.keep hc3 (by simp)).cell (o := 4) rfl; have f4 := (HB2.out.keep hc3 (by simp)).free 4; clear hb3 ho3 hn3 hg3 hc3)
 go_ret2
 have h1 := HO3.out.2.2
 have h2 := HSZ.out
 have hcs : Chg [ob] w3 (w3.setCell ⟨ob, 4, none⟩ (.pointer (some ⟨bx, 0, none⟩))) := (Chg.refl _ _).setCell (.inl (by simp)) _
 have hge : ∀ y, v'.ownBlock = some y -> W2.heap.size <= y := fun y hy => own_ge HO3.out.1 y hy
 refine ⟨ob, bx, v', rfl, HBK.out.set 4 _, HB3.out.keep hcs (fun hm => by have := List.mem_singleton.1 hm; omega), mem.own_chg (mem.own_base HO3.out.1 (by have := HC2.out.size; omega)) hcs (fun y hy hm => by have := hge y hy; have := List.mem_singleton.1 hm; omega), fun y hy => ⟨HO3.out.2.1 y hy, by have := hge y hy; omega⟩, ⟨by omega, by omega, by omega⟩, (HC2.out.trans HC3.out).setCell (.inr (show W.heap.size <= ob by omega)) _⟩
set_option maxHeartbeats 2000000 in
theorem step_cab {ob bx mb : Nat} {sv v : Value} {W : World} {x : Core} {rec ws : List Int} {n : Int} (hT : bitm.Tab W) (h0 : 0 ∉ bx :: mb :: (sv.ownBlock.toList ++ v.ownBlock.toList)) (hb : Blk W ob (opCells 5 bx) 102) (hI : cab.Shape x rec) (hs : 0 <= x.steps /\ x.steps <= 1000000) (ho : opens x ws.length = true) (hn : 0 <= n /\ n <= 1000000) (h : Pair 127 bx mb sv W x v rec ws n) :
 Calls Tryz.prog 38 #[.pointer (some ⟨ob, 0, none⟩), .pointer (some ⟨mb, 0, none⟩)] W fun e W' => e = .returned (.bool true) /\ St 127 bx mb sv W v W' (cab.K.step x (.pointer (some ⟨mb, 0, none⟩)) rec ws).1 (cab.K.step x (.pointer (some ⟨mb, 0, none⟩)) rec ws).2.1 (cab.K.step x (.pointer (some ⟨mb, 0, none⟩)) rec ws).2.2 (n + 1) := by
 have c0 : W.cell? ⟨ob, 0, none⟩ = some (.int .i64 5) := hb.cell rfl
 have c1 : W.cell? ⟨ob, 1, none⟩ = some (.pointer none) := hb.cell rfl
 have c2 : W.cell? ⟨ob, 2, none⟩ = some (.pointer none) := hb.cell rfl
 have c3 : W.cell? ⟨ob, 3, none⟩ = some (.pointer none) := hb.cell rfl
 have c4 : W.cell? ⟨ob, 4, none⟩ = some (.pointer none) := hb.cell rfl
 have c5 : W.cell? ⟨ob, 5, none⟩ = some (.pointer (some ⟨bx, 0, none⟩)) := hb.cell rfl
 have c6 : W.cell? ⟨ob, 6, none⟩ = some (.pointer none) := hb.cell rfl
 have HS := hid (cab.Step_yes (fun V x' rec' ws' n' hs => tab_st hT h0 hs) hI hs ho hn (St.start h))
 clear hT h0 hb hI hs ho hn h
 go_enter Tryz.func38, Tryz.ntmps38
 go_wp2_with (go_at_call 66; refine HS.out.mono ?_; rintro e w1 ⟨rfl, hx⟩; have H1 := hid hx; clear hx)
 go_ret
 exact ⟨rfl, H1.out⟩
set_option maxHeartbeats 2000000 in
theorem over_cab {ob bx mb : Nat} {sv v : Value} {W : World} {x : Core} {rec ws : List Int} {n : Int} (hb : Blk W ob (opCells 5 bx) 102) (h : Pair 127 bx mb sv W x v rec ws n) :
 Calls Tryz.prog 39 #[.pointer (some ⟨ob, 0, none⟩)] W fun e W' => e = .returned (.bool x.over) /\ W = W' := by
 have c0 : W.cell? ⟨ob, 0, none⟩ = some (.int .i64 5) := hb.cell rfl
 have c1 : W.cell? ⟨ob, 1, none⟩ = some (.pointer none) := hb.cell rfl
 have c2 : W.cell? ⟨ob, 2, none⟩ = some (.pointer none) := hb.cell rfl
 have c3 : W.cell? ⟨ob, 3, none⟩ = some (.pointer none) := hb.cell rfl
 have c4 : W.cell? ⟨ob, 4, none⟩ = some (.pointer none) := hb.cell rfl
 have c5 : W.cell? ⟨ob, 5, none⟩ = some (.pointer (some ⟨bx, 0, none⟩)) := hb.cell rfl
 have c6 : W.cell? ⟨ob, 6, none⟩ = some (.pointer none) := hb.cell rfl
 have HS := hid (cab.Over_any (St.start h))
 obtain ⟨b, hbv⟩ : ∃ b, x.over = b := ⟨_, rfl⟩
 rw [hbv] at HS ⊢
 clear hb h hbv
 cases b
 all_goals
  go_enter Tryz.func39, Tryz.ntmps39
  go_wp2_with (first | (go_at_call 68; refine (four.Over_nil _).mono ?_; rintro e w1 ⟨rfl, rfl⟩) | (go_at_call 69; refine (chen.Over_nil _).mono ?_; rintro e w1 ⟨rfl, rfl⟩) | (go_at_call 70; refine (seq.Over_nil _).mono ?_; rintro e w1 ⟨rfl, rfl⟩) | (go_at_call 71; refine (ring.Over_nil _).mono ?_; rintro e w1 ⟨rfl, rfl⟩) | (go_at_call 72; refine HS.out.mono ?_; rintro e w1 ⟨rfl, rfl⟩) | (go_at_call 73; refine (fifo.Over_nil _).mono ?_; rintro e w1 ⟨rfl, rfl⟩))
  go_ret
  exact ⟨rfl, rfl⟩
set_option maxHeartbeats 2000000 in
theorem answer_cab {ob bx mb : Nat} {sv v : Value} {W : World} {x : Core} {rec ws : List Int} {n : Int} (hb : Blk W ob (opCells 5 bx) 102) (h : Pair 127 bx mb sv W x v rec ws n) (ho : x.over = true) :
 Calls Tryz.prog 40 #[.pointer (some ⟨ob, 0, none⟩)] W fun e W' => ∃ v', e = .returned (.tuple #[v', .int .i64 x.code]) /\ OwnW W' W.heap.size v' rec /\ Chg [] W W' := by
 have c0 : W.cell? ⟨ob, 0, none⟩ = some (.int .i64 5) := hb.cell rfl
 have c1 : W.cell? ⟨ob, 1, none⟩ = some (.pointer none) := hb.cell rfl
 have c2 : W.cell? ⟨ob, 2, none⟩ = some (.pointer none) := hb.cell rfl
 have c3 : W.cell? ⟨ob, 3, none⟩ = some (.pointer none) := hb.cell rfl
 have c4 : W.cell? ⟨ob, 4, none⟩ = some (.pointer none) := hb.cell rfl
 have c5 : W.cell? ⟨ob, 5, none⟩ = some (.pointer (some ⟨bx, 0, none⟩)) := hb.cell rfl
 have c6 : W.cell? ⟨ob, 6, none⟩ = some (.pointer none) := hb.cell rfl
 have HS := hid (cab.Answer_any h)
 rw [ho, if_pos rfl, if_pos rfl] at HS
 clear hb h ho
 go_enter Tryz.func40, Tryz.ntmps40
 go_wp2_with (go_at_call 78; refine HS.out.mono ?_; rintro e w1 ⟨v', rfl, hw, hc⟩; have H1 := hid (⟨hw, hc⟩ : _ /\ _); clear hw hc)
 go_ret2
 exact ⟨_, rfl, H1.out.1, H1.out.2⟩
set_option maxHeartbeats 4000000 in
theorem begin_cab (k w s c st : Int) (ia : Option Addr) (il ic : Nat) (wr : Int) (ra : Option Addr) (rl rc : Nat) (op rd_ : Int) (rv : Value) (rec : List Int) (W : World) (hk : k = 5) (hO : ObjW k w s c st il rl) (hr : ReadsW W rv rec) (hl : rec.length <= 1000) (hb : begI w rl (rop.sizeI k w s c st il rl) 0 op rd_ 2 1 rec.length = 0) :
 Calls Tryz.prog 60 #[.agg #[.int .i64 k, .int .i64 w, .int .i64 s, .int .i64 c, .int .u32 st, .slice ia il ic, .int .i64 wr, .slice ra rl rc], .int .i64 0, .int .i64 op, .int .i64 rd_, rv] W fun e W' => ∃ ob bx v', e = .returned (.tuple #[.pointer (some ⟨ob, 0, none⟩), .int .i64 0]) /\ Blk W' ob (opCells 5 bx) 102 /\ Blk W' bx ((freshC k w s c st ia il ic wr ra rl rc (rop.sizeI k w s c st il rl) op rd_).cells v') 127 /\ OwnW W' W.heap.size v' rec /\ (∀ y, v'.ownBlock = some y -> y ≠ bx /\ y ≠ ob) /\ (W.heap.size <= ob /\ W.heap.size <= bx /\ ob ≠ bx) /\ Chg [] W W' := by
 subst hk
 obtain ⟨W1, hW1⟩ : ∃ z, W.alloc (.cells #[.int .i64 5, .int .i64 w, .int .i64 s, .int .i64 c, .int .u32 st, .slice ia il ic, .int .i64 wr, .slice ra rl rc] 26) = z := ⟨_, rfl⟩
 have hc1 : Chg [] W W1 := by rw [<- hW1]; exact (Chg.refl [] W).alloc _
 have HB1 : Hid (Blk W1 W.heap.size #[.int .i64 5, .int .i64 w, .int .i64 s, .int .i64 c, .int .u32 st, .slice ia il ic, .int .i64 wr, .slice ra rl rc] 26) := hid (by rw [<- hW1]; exact Blk.new W _ _)
 obtain ⟨W2, hW2⟩ : ∃ z, W1.alloc (.cells #[.int .i64 5, .pointer none, .pointer none, .pointer none, .pointer none, .pointer none, .pointer none] 102) = z := ⟨_, rfl⟩
 have hc2 : Chg [] W1 W2 := by rw [<- hW2]; exact (Chg.refl [] W1).alloc _
 have HB2 : Hid (Blk W2 W1.heap.size #[.int .i64 5, .pointer none, .pointer none, .pointer none, .pointer none, .pointer none, .pointer none] 102) := hid (by rw [<- hW2]; exact Blk.new W1 _ _)
 have hs1 : W1.heap.size = W.heap.size + 1 := by rw [<- hW1]; simp
 have hs2 : W2.heap.size = W1.heap.size + 1 := by rw [<- hW2]; simp
 have HC2 : Hid (Chg [] W W2) := hid (hc1.trans hc2)
 have hO1 := HB1.out.keep hc2 (by simp)
 have e0 := hO1.cell (o := 0) rfl
 have d0 := HB1.out.cell (o := 0) rfl
 have e1 := hO1.cell (o := 1) rfl
 have d1 := HB1.out.cell (o := 1) rfl
 have e2 := hO1.cell (o := 2) rfl
 have d2 := HB1.out.cell (o := 2) rfl
 have e3 := hO1.cell (o := 3) rfl
 have d3 := HB1.out.cell (o := 3) rfl
 have e4 := hO1.cell (o := 4) rfl
 have d4 := HB1.out.cell (o := 4) rfl
 have e5 := hO1.cell (o := 5) rfl
 have d5 := HB1.out.cell (o := 5) rfl
 have e6 := hO1.cell (o := 6) rfl
 have d6 := HB1.out.cell (o := 6) rfl
 have e7 := hO1.cell (o := 7) rfl
 have d7 := HB1.out.cell (o := 7) rfl
 have HBE := hid (fun V (hV : ReadsW V rv rec) => cab.Begin_yes 5 w s c st ia il ic wr ra rl rc 0 op rd_ (rop.sizeI 5 w s c st il rl) rv rec V hV hl (fun V => by have := lay.size_cab 5 w s c st ia il ic wr ra rl rc hO V; rwa [if_pos rfl] at this) hb)
 have HR := hid (hr.chg HC2.out)
 have HSZ : Hid (W1.heap.size = W.heap.size + 1 /\ W2.heap.size = W1.heap.size + 1) := hid ⟨hs1, hs2⟩
 obtain ⟨ob, hob⟩ : ∃ z, W1.heap.size = z := ⟨_, rfl⟩
 rw [hob] at HB2 HSZ
 obtain ⟨rva, rvc, rfl, _⟩ := reads_slice hr.1
 clear hO hr hl hb hc1 hc2 hs1 hs2 hO1
 go_enter Tryz.func60, Tryz.ntmps60
 go_wp2_with (go_at_call 102; (try rw [hW1]); (try rw [hW2]); refine (HBE.out _ HR.out).mono ?_; rintro e w3 ⟨bx, v', rfl, hb3, ho3, hn3, hg3, hc3⟩; have HB3 := hid hb3; have HO3 := hid (⟨ho3, hn3, hg3⟩ : _ /\ _ /\ _); have HC3 := hid hc3; have HBK := hid (HB2.out.keep hc3 (by simp)); have g5 := (HB2.out.keep hc3 (by simp)).cell (o := 5) rfl; have f5 := (HB2.out.keep hc3 (by simp)).free 5; clear hb3 ho3 hn3 hg3 hc3)
 go_ret2
 have h1 := HO3.out.2.2
 have h2 := HSZ.out
 have hcs : Chg [ob] w3 (w3.setCell ⟨ob, 5, none⟩ (.pointer (some ⟨bx, 0, none⟩))) := (Chg.refl _ _).setCell (.inl (by simp)) _
 have hge : ∀ y, v'.ownBlock = some y -> W2.heap.size <= y := fun y hy => own_ge HO3.out.1 y hy
 refine ⟨ob, bx, v', rfl, HBK.out.set 5 _, HB3.out.keep hcs (fun hm => by have := List.mem_singleton.1 hm; omega), mem.own_chg (mem.own_base HO3.out.1 (by have := HC2.out.size; omega)) hcs (fun y hy hm => by have := hge y hy; have := List.mem_singleton.1 hm; omega), fun y hy => ⟨HO3.out.2.1 y hy, by have := hge y hy; omega⟩, ⟨by omega, by omega, by omega⟩, (HC2.out.trans HC3.out).setCell (.inr (show W.heap.size <= ob by omega)) _⟩
set_option maxHeartbeats 2000000 in
theorem step_fifo {ob bx mb : Nat} {sv v : Value} {W : World} {x : Core} {rec ws : List Int} {n : Int} (hT : bitm.Tab W) (h0 : 0 ∉ bx :: mb :: (sv.ownBlock.toList ++ v.ownBlock.toList)) (hb : Blk W ob (opCells 6 bx) 102) (hI : fifo.Shape x rec) (hs : 0 <= x.steps /\ x.steps <= 1000000) (ho : opens x ws.length = true) (hn : 0 <= n /\ n <= 1000000) (h : Pair 128 bx mb sv W x v rec ws n) :
 Calls Tryz.prog 38 #[.pointer (some ⟨ob, 0, none⟩), .pointer (some ⟨mb, 0, none⟩)] W fun e W' => e = .returned (.bool true) /\ St 128 bx mb sv W v W' (fifo.K.step x (.pointer (some ⟨mb, 0, none⟩)) rec ws).1 (fifo.K.step x (.pointer (some ⟨mb, 0, none⟩)) rec ws).2.1 (fifo.K.step x (.pointer (some ⟨mb, 0, none⟩)) rec ws).2.2 (n + 1) := by
 have c0 : W.cell? ⟨ob, 0, none⟩ = some (.int .i64 6) := hb.cell rfl
 have c1 : W.cell? ⟨ob, 1, none⟩ = some (.pointer none) := hb.cell rfl
 have c2 : W.cell? ⟨ob, 2, none⟩ = some (.pointer none) := hb.cell rfl
 have c3 : W.cell? ⟨ob, 3, none⟩ = some (.pointer none) := hb.cell rfl
 have c4 : W.cell? ⟨ob, 4, none⟩ = some (.pointer none) := hb.cell rfl
 have c5 : W.cell? ⟨ob, 5, none⟩ = some (.pointer none) := hb.cell rfl
 have c6 : W.cell? ⟨ob, 6, none⟩ = some (.pointer (some ⟨bx, 0, none⟩)) := hb.cell rfl
 have HS := hid (fifo.Step_yes hI hs ho hn (St.start h))
 clear hT h0 hb hI hs ho hn h
 go_enter Tryz.func38, Tryz.ntmps38
 go_wp2_with (go_at_call 67; refine HS.out.mono ?_; rintro e w1 ⟨rfl, hx⟩; have H1 := hid hx; clear hx)
 go_ret
 exact ⟨rfl, H1.out⟩
set_option maxHeartbeats 2000000 in
theorem over_fifo {ob bx mb : Nat} {sv v : Value} {W : World} {x : Core} {rec ws : List Int} {n : Int} (hb : Blk W ob (opCells 6 bx) 102) (h : Pair 128 bx mb sv W x v rec ws n) :
 Calls Tryz.prog 39 #[.pointer (some ⟨ob, 0, none⟩)] W fun e W' => e = .returned (.bool x.over) /\ W = W' := by
 have c0 : W.cell? ⟨ob, 0, none⟩ = some (.int .i64 6) := hb.cell rfl
 have c1 : W.cell? ⟨ob, 1, none⟩ = some (.pointer none) := hb.cell rfl
 have c2 : W.cell? ⟨ob, 2, none⟩ = some (.pointer none) := hb.cell rfl
 have c3 : W.cell? ⟨ob, 3, none⟩ = some (.pointer none) := hb.cell rfl
 have c4 : W.cell? ⟨ob, 4, none⟩ = some (.pointer none) := hb.cell rfl
 have c5 : W.cell? ⟨ob, 5, none⟩ = some (.pointer none) := hb.cell rfl
 have c6 : W.cell? ⟨ob, 6, none⟩ = some (.pointer (some ⟨bx, 0, none⟩)) := hb.cell rfl
 have HS := hid (fifo.Over_any (St.start h))
 obtain ⟨b, hbv⟩ : ∃ b, x.over = b := ⟨_, rfl⟩
 rw [hbv] at HS ⊢
 clear hb h hbv
 cases b
 all_goals
  go_enter Tryz.func39, Tryz.ntmps39
  go_wp2_with (first | (go_at_call 68; refine (four.Over_nil _).mono ?_; rintro e w1 ⟨rfl, rfl⟩) | (go_at_call 69; refine (chen.Over_nil _).mono ?_; rintro e w1 ⟨rfl, rfl⟩) | (go_at_call 70; refine (seq.Over_nil _).mono ?_; rintro e w1 ⟨rfl, rfl⟩) | (go_at_call 71; refine (ring.Over_nil _).mono ?_; rintro e w1 ⟨rfl, rfl⟩) | (go_at_call 72; refine (cab.Over_nil _).mono ?_; rintro e w1 ⟨rfl, rfl⟩) | (go_at_call 73; refine HS.out.mono ?_; rintro e w1 ⟨rfl, rfl⟩))
  go_ret
  exact ⟨rfl, rfl⟩
set_option maxHeartbeats 2000000 in
theorem answer_fifo {ob bx mb : Nat} {sv v : Value} {W : World} {x : Core} {rec ws : List Int} {n : Int} (hb : Blk W ob (opCells 6 bx) 102) (h : Pair 128 bx mb sv W x v rec ws n) (ho : x.over = true) :
 Calls Tryz.prog 40 #[.pointer (some ⟨ob, 0, none⟩)] W fun e W' => ∃ v', e = .returned (.tuple #[v', .int .i64 x.code]) /\ OwnW W' W.heap.size v' rec /\ Chg [] W W' := by
 have c0 : W.cell? ⟨ob, 0, none⟩ = some (.int .i64 6) := hb.cell rfl
 have c1 : W.cell? ⟨ob, 1, none⟩ = some (.pointer none) := hb.cell rfl
 have c2 : W.cell? ⟨ob, 2, none⟩ = some (.pointer none) := hb.cell rfl
 have c3 : W.cell? ⟨ob, 3, none⟩ = some (.pointer none) := hb.cell rfl
 have c4 : W.cell? ⟨ob, 4, none⟩ = some (.pointer none) := hb.cell rfl
 have c5 : W.cell? ⟨ob, 5, none⟩ = some (.pointer none) := hb.cell rfl
 have c6 : W.cell? ⟨ob, 6, none⟩ = some (.pointer (some ⟨bx, 0, none⟩)) := hb.cell rfl
 have HS := hid (fifo.Answer_any h)
 rw [ho, if_pos rfl, if_pos rfl] at HS
 clear hb h ho
 go_enter Tryz.func40, Tryz.ntmps40
 go_wp2_with (go_at_call 79; refine HS.out.mono ?_; rintro e w1 ⟨v', rfl, hw, hc⟩; have H1 := hid (⟨hw, hc⟩ : _ /\ _); clear hw hc)
 go_ret2
 exact ⟨_, rfl, H1.out.1, H1.out.2⟩
set_option maxHeartbeats 4000000 in
theorem begin_fifo (k w s c st : Int) (ia : Option Addr) (il ic : Nat) (wr : Int) (ra : Option Addr) (rl rc : Nat) (op rd_ : Int) (rv : Value) (rec : List Int) (W : World) (hk : k = 6) (hO : ObjW k w s c st il rl) (hr : ReadsW W rv rec) (hl : rec.length <= 1000) (hb : begI w rl (rop.sizeI k w s c st il rl) 0 op rd_ 3 4 rec.length = 0) :
 Calls Tryz.prog 60 #[.agg #[.int .i64 k, .int .i64 w, .int .i64 s, .int .i64 c, .int .u32 st, .slice ia il ic, .int .i64 wr, .slice ra rl rc], .int .i64 0, .int .i64 op, .int .i64 rd_, rv] W fun e W' => ∃ ob bx v', e = .returned (.tuple #[.pointer (some ⟨ob, 0, none⟩), .int .i64 0]) /\ Blk W' ob (opCells 6 bx) 102 /\ Blk W' bx ((freshC k w s c st ia il ic wr ra rl rc (rop.sizeI k w s c st il rl) op rd_).cells v') 128 /\ OwnW W' W.heap.size v' rec /\ (∀ y, v'.ownBlock = some y -> y ≠ bx /\ y ≠ ob) /\ (W.heap.size <= ob /\ W.heap.size <= bx /\ ob ≠ bx) /\ Chg [] W W' := by
 subst hk
 obtain ⟨W1, hW1⟩ : ∃ z, W.alloc (.cells #[.int .i64 6, .int .i64 w, .int .i64 s, .int .i64 c, .int .u32 st, .slice ia il ic, .int .i64 wr, .slice ra rl rc] 26) = z := ⟨_, rfl⟩
 have hc1 : Chg [] W W1 := by rw [<- hW1]; exact (Chg.refl [] W).alloc _
 have HB1 : Hid (Blk W1 W.heap.size #[.int .i64 6, .int .i64 w, .int .i64 s, .int .i64 c, .int .u32 st, .slice ia il ic, .int .i64 wr, .slice ra rl rc] 26) := hid (by rw [<- hW1]; exact Blk.new W _ _)
 obtain ⟨W2, hW2⟩ : ∃ z, W1.alloc (.cells #[.int .i64 6, .pointer none, .pointer none, .pointer none, .pointer none, .pointer none, .pointer none] 102) = z := ⟨_, rfl⟩
 have hc2 : Chg [] W1 W2 := by rw [<- hW2]; exact (Chg.refl [] W1).alloc _
 have HB2 : Hid (Blk W2 W1.heap.size #[.int .i64 6, .pointer none, .pointer none, .pointer none, .pointer none, .pointer none, .pointer none] 102) := hid (by rw [<- hW2]; exact Blk.new W1 _ _)
 have hs1 : W1.heap.size = W.heap.size + 1 := by rw [<- hW1]; simp
 have hs2 : W2.heap.size = W1.heap.size + 1 := by rw [<- hW2]; simp
 have HC2 : Hid (Chg [] W W2) := hid (hc1.trans hc2)
 have hO1 := HB1.out.keep hc2 (by simp)
 have e0 := hO1.cell (o := 0) rfl
 have d0 := HB1.out.cell (o := 0) rfl
 have e1 := hO1.cell (o := 1) rfl
 have d1 := HB1.out.cell (o := 1) rfl
 have e2 := hO1.cell (o := 2) rfl
 have d2 := HB1.out.cell (o := 2) rfl
 have e3 := hO1.cell (o := 3) rfl
 have d3 := HB1.out.cell (o := 3) rfl
 have e4 := hO1.cell (o := 4) rfl
 have d4 := HB1.out.cell (o := 4) rfl
 have e5 := hO1.cell (o := 5) rfl
 have d5 := HB1.out.cell (o := 5) rfl
 have e6 := hO1.cell (o := 6) rfl
 have d6 := HB1.out.cell (o := 6) rfl
 have e7 := hO1.cell (o := 7) rfl
 have d7 := HB1.out.cell (o := 7) rfl
 have HBE := hid (fun V (hV : ReadsW V rv rec) => fifo.Begin_yes 6 w s c st ia il ic wr ra rl rc 0 op rd_ (rop.sizeI 6 w s c st il rl) rv rec V hV hl (fun V => by have := lay.size_fifo 6 w s c st ia il ic wr ra rl rc hO V; rwa [if_pos rfl] at this) hb)
 have HR := hid (hr.chg HC2.out)
 have HSZ : Hid (W1.heap.size = W.heap.size + 1 /\ W2.heap.size = W1.heap.size + 1) := hid ⟨hs1, hs2⟩
 obtain ⟨ob, hob⟩ : ∃ z, W1.heap.size = z := ⟨_, rfl⟩
 rw [hob] at HB2 HSZ
 obtain ⟨rva, rvc, rfl, _⟩ := reads_slice hr.1
 clear hO hr hl hb hc1 hc2 hs1 hs2 hO1
 go_enter Tryz.func60, Tryz.ntmps60
 go_wp2_with (go_at_call 103; (try rw [hW1]); (try rw [hW2]); refine (HBE.out _ HR.out).mono ?_; rintro e w3 ⟨bx, v', rfl, hb3, ho3, hn3, hg3, hc3⟩; have HB3 := hid hb3; have HO3 := hid (⟨ho3, hn3, hg3⟩ : _ /\ _ /\ _); have HC3 := hid hc3; have HBK := hid (HB2.out.keep hc3 (by simp)); have g6 := (HB2.out.keep hc3 (by simp)).cell (o := 6) rfl; have f6 := (HB2.out.keep hc3 (by simp)).free 6; clear hb3 ho3 hn3 hg3 hc3)
 go_ret2
 have h1 := HO3.out.2.2
 have h2 := HSZ.out
 have hcs : Chg [ob] w3 (w3.setCell ⟨ob, 6, none⟩ (.pointer (some ⟨bx, 0, none⟩))) := (Chg.refl _ _).setCell (.inl (by simp)) _
 have hge : ∀ y, v'.ownBlock = some y -> W2.heap.size <= y := fun y hy => own_ge HO3.out.1 y hy
 refine ⟨ob, bx, v', rfl, HBK.out.set 6 _, HB3.out.keep hcs (fun hm => by have := List.mem_singleton.1 hm; omega), mem.own_chg (mem.own_base HO3.out.1 (by have := HC2.out.size; omega)) hcs (fun y hy hm => by have := hge y hy; have := List.mem_singleton.1 hm; omega), fun y hy => ⟨HO3.out.2.1 y hy, by have := hge y hy; omega⟩, ⟨by omega, by omega, by omega⟩, (HC2.out.trans HC3.out).setCell (.inr (show W.heap.size <= ob by omega)) _⟩
end Go.Proofs.YtphfnjcboellhaaGreatDoor.wv
