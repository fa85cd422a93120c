/- Parts joined: KrnTa, KrnTb, KrnTc, KrnTd, KrnTe. -/
import Derived.Test.YtfkokbeloenfdaaDoorKrnPm
import Derived.Test.YtfkokbeloenfdaaDoorKrnZg
import Derived.Test.YtfkokbeloenfdaaDoorOpen
/- TopShifts: the case as an argument; are tasks plain, few. -/
namespace Go.Proofs.YtfkokbeloenfdaaDoor.krn
open Go Go.RowKit Go.Proofs.YtfkokbeloenfdaaDoor.kit Go.Shelf
set_option linter.unusedVariables false
set_option linter.unusedSimpArgs false
set_option maxRecDepth 20000
theorem cellsTask : Tryd.prog.cellsOf 33 = 7 := by kernel_rfl
theorem cellsTasks : Tryd.prog.cellsOf 22 = 1 := by kernel_rfl
theorem cellsDue : Tryd.prog.cellsOf 35 = 2 := by kernel_rfl
theorem cellsDues : Tryd.prog.cellsOf 23 = 1 := by kernel_rfl
theorem cellsInstrs : Tryd.prog.cellsOf 31 = 1 := by kernel_rfl
theorem cellsInstr : Tryd.prog.cellsOf 138 = 5 := by kernel_rfl
theorem cellsInts : Tryd.prog.cellsOf 44 = 1 := by kernel_rfl
theorem cellsRows : Tryd.prog.cellsOf 24 = 1 := by kernel_rfl
theorem cellsInt : Tryd.prog.cellsOf 3 = 1 := by kernel_rfl
theorem cellsCase : Tryd.prog.cellsOf 26 = 4 := by kernel_rfl
/-- a task's code is a slice -/
def CodeSl (t : Tk) : Prop := ∃ (a : Option Addr) (n c : Nat), t.code = .slice a n c
theorem CodeSl.one {t : Tk} (h : CodeSl t) : t.code.oneCell' = true := by
  obtain ⟨a, n, c, h⟩ := h
  rw [h]; rfl
theorem tasks_open {w : World} {n : Nat} {cs : List Value} (h : kit.Opens Tryd.prog w (n + 4) 22 cs) : ∃ a c, ∃ l : List Tk, cs = [.slice a l.length c] ∧ Reads w 7 (.slice a l.length c) l.length (TkV l) ∧ ∀ t ∈ l, CodeSl t := by
  obtain ⟨a, len, c, rfl⟩ := h.isSlice Tryd.underlying22 (by rw [cellsTask]; decide)
  obtain ⟨xs, hx, hxs⟩ := Opens.slice h Tryd.underlying22 cellsTask (by decide)
  obtain ⟨ts, hl, hx2, hw⟩ := rows_of Tk.cells CodeSl 7 (fun _ => rfl) len xs hx.1 fun i hi => by
    have hp := hxs i hi
    have hl3 := (hp.struct Tryd.underlying33).1
    obtain ⟨t0, g0, v0⟩ := (hp.field Tryd.underlying33 0 _ rfl 0 1 rfl cellsInt).int Tryd.underlying3
    obtain ⟨t1, g1, v1⟩ := (hp.field Tryd.underlying33 1 _ rfl 1 1 rfl cellsInt).int Tryd.underlying3
    obtain ⟨t2, g2, v2⟩ := (hp.field Tryd.underlying33 2 _ rfl 2 1 rfl cellsInt).int Tryd.underlying3
    obtain ⟨t3, g3, v3⟩ := (hp.field Tryd.underlying33 3 _ rfl 3 1 rfl cellsInt).int Tryd.underlying3
    obtain ⟨t4, g4, v4⟩ := (hp.field Tryd.underlying33 4 _ rfl 4 1 rfl cellsInt).int Tryd.underlying3
    obtain ⟨t5, g5, v5⟩ := (hp.field Tryd.underlying33 5 _ rfl 5 1 rfl cellsInt).int Tryd.underlying3
    obtain ⟨a6, l6, c6, g6⟩ := (hp.field Tryd.underlying33 6 _ rfl 6 1 rfl cellsInstrs).isSlice Tryd.underlying31 (by rw [cellsInstr]; decide)
    rw [cellsTask] at hl3
    refine ⟨⟨t0, t1, t2, t3, t4, t5, .slice a6 l6 c6⟩, ?_, ⟨a6, l6, c6, rfl⟩⟩
    generalize (xs.drop (i * 7)).take 7 = ys at *
    match ys, hl3 with
    | [y0, y1, y2, y3, y4, y5, y6], _ => simp at g0 g1 g2 g3 g4 g5 g6; rw [g0, g1, g2, g3, g4, g5, g6]; rfl
  subst hl
  refine ⟨a, c, ts, rfl, ?_, hw⟩
  unfold TkV
  rw [← hx2]
  exact hx
theorem dues_open {w : World} {n : Nat} {cs : List Value} (h : kit.Opens Tryd.prog w (n + 4) 23 cs) : ∃ a c, ∃ l : List Du, cs = [.slice a l.length c] ∧ Reads w 2 (.slice a l.length c) l.length (DuV l) ∧ ∀ d ∈ l, I64 d.at_ ∧ I64 d.task := by
  obtain ⟨a, len, c, rfl⟩ := h.isSlice Tryd.underlying23 (by rw [cellsDue]; decide)
  obtain ⟨xs, hx, hxs⟩ := Opens.slice h Tryd.underlying23 cellsDue (by decide)
  obtain ⟨ts, hl, hx2, hw⟩ := rows_of Du.cells (fun d => I64 d.at_ ∧ I64 d.task) 2 (fun _ => rfl) len xs hx.1 fun i hi => by
    have hp := hxs i hi
    have hl3 := (hp.struct Tryd.underlying35).1
    obtain ⟨t0, g0, v0⟩ := (hp.field Tryd.underlying35 0 _ rfl 0 1 rfl cellsInt).int Tryd.underlying3
    obtain ⟨t1, g1, v1⟩ := (hp.field Tryd.underlying35 1 _ rfl 1 1 rfl cellsInt).int Tryd.underlying3
    rw [cellsDue] at hl3
    refine ⟨⟨t0, t1⟩, ?_, v0, v1⟩
    generalize (xs.drop (i * 2)).take 2 = ys at *
    match ys, hl3 with
    | [y0, y1], _ => simp at g0 g1; rw [g0, g1]; rfl
  subst hl
  refine ⟨a, c, ts, rfl, ?_, hw⟩
  unfold DuV
  rw [← hx2]
  exact hx
theorem dem_open {w : World} {n : Nat} {cs : List Value} (h : kit.Opens Tryd.prog w (n + 4) 24 cs) : ∃ a c, ∃ l : List (List Int), cs = [.slice a l.length c] ∧ DemAt w (.slice a l.length c) l := by
  obtain ⟨a, len, c, rfl⟩ := h.isSlice Tryd.underlying24 (by rw [cellsInts]; decide)
  obtain ⟨xs, hr, hxs⟩ := Opens.slice h Tryd.underlying24 cellsInts (by decide)
  obtain ⟨rs, h1, h2, h3⟩ := rows_of (R := Option Addr × Nat × List Int) (fun r => [.slice r.1 r.2.2.length r.2.1]) (fun r => Reads w 1 (.slice r.1 r.2.2.length r.2.1) r.2.2.length (intV r.2.2)) 1 (fun _ => rfl) len xs hr.1 fun i hi => by
    have h0 := hxs i hi
    obtain ⟨a', l', c', he⟩ := h0.isSlice Tryd.underlying44 (by rw [cellsInt]; decide)
    rw [he] at h0
    obtain ⟨zs, hz, hr2, hw2⟩ := kit.Opens.ints (n := n + 1) h0 Tryd.underlying44 Tryd.underlying3 cellsInt
    subst hz
    exact ⟨(a', c', zs), he, hr2⟩
  subst h1
  refine ⟨a, c, rs.map (·.2.2), by rw [List.length_map], xs, by rw [List.length_map]; exact hr, fun j r hj => ?_⟩
  rw [List.getElem?_map] at hj
  obtain ⟨x, hx, rfl⟩ := Option.map_eq_some_iff.1 hj
  refine ⟨.slice x.1 x.2.2.length x.2.1, ?_, h3 x (List.mem_of_getElem? hx)⟩
  rw [h2, flatMap_one (fun r : Option Addr × Nat × List Int => Value.slice r.1 r.2.2.length r.2.1), List.getElem?_map, hx]
  rfl
/-- the case as an argument -/
structure CaseAt (w : World) (cs : List Value) where
  (a0 : Option Addr) (c0 : Nat) (l : List Tk) (a1 : Option Addr) (c1 : Nat) (asks : List Du) (a2 : Option Addr) (c2 : Nat) (dem : List (List Int)) (tk : Int)
  eq : cs = [.slice a0 l.length c0, .slice a1 asks.length c1, .slice a2 dem.length c2, .int .i64 tk]
  rl : Reads w 7 (.slice a0 l.length c0) l.length (TkV l)
  code : ∀ t ∈ l, CodeSl t
  ra : Reads w 2 (.slice a1 asks.length c1) asks.length (DuV asks)
  a64 : ∀ d ∈ asks, I64 d.at_ ∧ I64 d.task
  rd : DemAt w (.slice a2 dem.length c2) dem
theorem case_open {w : World} {n : Nat} {cs : List Value} (h : kit.Opens Tryd.prog w (n + 5) 26 cs) : Nonempty (CaseAt w cs) := by
  have hl := (h.struct Tryd.underlying26).1
  obtain ⟨a0, c0, l, e0, r0, hc⟩ := tasks_open (n := n) (h.field Tryd.underlying26 0 _ rfl 0 1 rfl cellsTasks)
  obtain ⟨a1, c1, asks, e1, r1, h64⟩ := dues_open (n := n) (h.field Tryd.underlying26 1 _ rfl 1 1 rfl cellsDues)
  obtain ⟨a2, c2, dem, e2, r2⟩ := dem_open (n := n) (h.field Tryd.underlying26 2 _ rfl 2 1 rfl cellsRows)
  obtain ⟨tk, e3, w3⟩ := (h.field Tryd.underlying26 3 _ rfl 3 1 rfl cellsInt).int Tryd.underlying3
  rw [cellsCase] at hl
  refine ⟨⟨a0, c0, l, a1, c1, asks, a2, c2, dem, tk, ?_, r0, hc, r1, h64, r2⟩⟩
  match cs, hl with
  | [y0, y1, y2, y3], _ => simp at e0 e1 e2 e3; rw [e0, e1, e2, e3]
/-- the reference's: is a task plain -/
def plainB (t : Tk) : Bool := (decide (t.kind = 1) || (decide (t.kind = 2) && decide (t.offset = 0))) && decide (0 ≤ t.prio) && decide (t.prio ≤ 255) && decide (1 ≤ t.period) && decide (t.period ≤ 1048576) && decide (0 ≤ t.offset) && decide (t.offset ≤ 1048576) && decide (1 ≤ t.deadline) && decide (t.deadline ≤ t.period) && decide (1 ≤ t.own) && decide (t.own ≤ 64)
theorem plainB_iff {t : Tk} (h : plainB t = true) : PlainT t := by
  unfold plainB at h
  simp only [Bool.and_eq_true, Bool.or_eq_true, decide_eq_true_eq] at h
  obtain ⟨⟨⟨⟨⟨⟨⟨⟨⟨⟨h0, h1⟩, h2⟩, h3⟩, h4⟩, h5⟩, h6⟩, h7⟩, h8⟩, h9⟩, h10⟩ := h
  exact ⟨h0, ⟨h1, h2⟩, ⟨h3, h4⟩, ⟨h5, h6⟩, ⟨h7, h8⟩, h9, h10⟩
set_option maxHeartbeats 4000000 in
theorem rPlain_any (k p pe o d ow : Int) (code : Value) (hc : code.oneCell' = true) (w : World) : Calls Tryd.prog 9 #[.agg #[.int .i64 k, .int .i64 p, .int .i64 pe, .int .i64 o, .int .i64 d, .int .i64 ow, code]] w fun e w' => e = .returned (.bool (plainB ⟨k, p, pe, o, d, ow, code⟩)) ∧ Chg [] w w' := by
  have HC : Hid (Chg [] w (w.alloc (.cells #[.int .i64 k, .int .i64 p, .int .i64 pe, .int .i64 o, .int .i64 d, .int .i64 ow, code] 33))) := Lib.hid ((Chg.refl [] w).alloc _)
  go_enter Tryd.func9, Tryd.ntmps9
  go_wp2
  all_goals go_ret
  all_goals exact ⟨by (simp [plainB, *]; try omega), (Chg.refl [] w).alloc _⟩
end Go.Proofs.YtfkokbeloenfdaaDoor.krn

/- TopShifts: Few, Light, the reference's New. -/
namespace Go.Proofs.YtfkokbeloenfdaaDoor.krn
open Go Go.RowKit Go.Proofs.YtfkokbeloenfdaaDoor.kit Go.Shelf
set_option linter.unusedVariables false
set_option linter.unusedSimpArgs false
set_option maxRecDepth 20000
theorem all_not {R : Type} {p : R → Bool} {l : List R} {j : Nat} {t : R} (h : l[j]? = some t) (hp : p t = false) : l.all p = false := by
  rw [List.all_eq_false]
  exact ⟨t, List.mem_of_getElem? h, by rw [hp]; decide⟩
theorem take_all {R : Type} {p : R → Bool} {l : List R} {j : Nat} {t : R} (ha : (l.take j).all p = true) (h : l[j]? = some t) (hp : p t = true) : (l.take (j + 1)).all p = true := by
  rw [List.take_add_one, h, List.all_append, ha]
  simp [hp]
def codeLen (t : Tk) : Nat := match t.code with
  | .slice _ n _ => n
  | _ => 0
def fewB (l : List Tk) : Bool := decide ((l.length : Int) ≤ 20) && l.all (fun t => decide (codeLen t ≤ 200))
set_option maxHeartbeats 2000000 in
theorem few_any (ta : Option Addr) (tc : Nat) (ts : List Tk) (W : World) (hT : Reads W 7 (.slice ta ts.length tc) ts.length (TkV ts)) (hcd : ∀ t ∈ ts, CodeSl t) :
    Calls Tryd.prog 8 #[.slice ta ts.length tc, .int .i64 20] W fun e W' => e = .returned (.bool (fewB ts)) ∧ Chg [] W W' := by
  obtain ⟨R, hR⟩ : ∃ R, fewB ts = R := ⟨_, rfl⟩
  have HR := Lib.hid hR
  rw [hR]
  obtain ⟨b1, o1, hx1, hc1, -⟩ := reads_index (P := Tryd.prog) Tryd.underlying22 szTask hT
  have HX1 := Lib.hid hx1
  have HC1 := Lib.hid hc1
  have HCD := Lib.hid hcd
  clear hx1 hc1 hT hR hcd
  by_cases h1 : (ts.length : Int) ≤ 20
  rotate_left
  · obtain rfl : false = R := by rw [← HR.out]; simp [fewB, h1]
    have h1' : (20 : Int) < (ts.length : Int) := by omega
    clear h1
    go_enter Tryd.func8, Tryd.ntmps8
    go_wp2_with fail
    go_ret
    exact ⟨rfl, Chg.refl _ _⟩
  have h1' : ¬ ((20 : Int) < (ts.length : Int)) := by omega
  have H1 := Lib.hid h1
  go_enter Tryd.func8, Tryd.ntmps8
  go_wp2_with fail
  clear h1 h1'
  go_loopw [13] (fun i wr => ∃ j : Nat, j ≤ ts.length ∧ i = .int .i64 j ∧ Hid ((ts.take j).all (fun t => decide (codeLen t ≤ 200)) = true) ∧ Hid (Chg [] W wr)) (fun i _ => ts.length - (intOf i).toNat)
  case atStart => exact ⟨0, Nat.zero_le _, rfl, Lib.hid rfl, Lib.hid (Chg.refl _ _)⟩
  case round =>
    obtain ⟨j, hj, rfl, HG, HJ⟩ := hrel
    by_cases hlt : j < ts.length
    · have HLT := Lib.hid hlt
      have g1 := HX1.out j hlt
      obtain ⟨⟨kind, prio, period, offset, deadline, own, code⟩, htk⟩ : ∃ t, ts[j]? = some t := ⟨_, List.getElem?_eq_getElem hlt⟩
      obtain ⟨ca, cl, cc, hce⟩ := HCD.out _ (List.mem_of_getElem? htk)
      simp only at hce
      subst hce
      have q0 := HJ.out.keep (HC1.out (j * 7 + 0) _ (by unfold TkV; rw [flatMap_get Tk.cells 7 (fun _ => rfl) ts j 0 (by decide) _ htk]; rfl)) (by simp)
      have q1 := HJ.out.keep (HC1.out (j * 7 + 1) _ (by unfold TkV; rw [flatMap_get Tk.cells 7 (fun _ => rfl) ts j 1 (by decide) _ htk]; rfl)) (by simp)
      have q2 := HJ.out.keep (HC1.out (j * 7 + 2) _ (by unfold TkV; rw [flatMap_get Tk.cells 7 (fun _ => rfl) ts j 2 (by decide) _ htk]; rfl)) (by simp)
      have q3 := HJ.out.keep (HC1.out (j * 7 + 3) _ (by unfold TkV; rw [flatMap_get Tk.cells 7 (fun _ => rfl) ts j 3 (by decide) _ htk]; rfl)) (by simp)
      have q4 := HJ.out.keep (HC1.out (j * 7 + 4) _ (by unfold TkV; rw [flatMap_get Tk.cells 7 (fun _ => rfl) ts j 4 (by decide) _ htk]; rfl)) (by simp)
      have q5 := HJ.out.keep (HC1.out (j * 7 + 5) _ (by unfold TkV; rw [flatMap_get Tk.cells 7 (fun _ => rfl) ts j 5 (by decide) _ htk]; rfl)) (by simp)
      have q6 := HJ.out.keep (HC1.out (j * 7 + 6) _ (by unfold TkV; rw [flatMap_get Tk.cells 7 (fun _ => rfl) ts j 6 (by decide) _ htk]; rfl)) (by simp)
      rw [Nat.add_zero] at q0
      rw [← Nat.add_assoc] at q1 q2 q3 q4 q5 q6
      have HK := Lib.hid htk
      have hj1000 : (j : Int) < 1000 := by have := H1.out; omega
      have k8 : IntKind.i64.wrap ((j : Int) + 1) = (j : Int) + 1 := by rw [IntKind.wrap_i64]; omega
      clear htk hj hlt
      by_cases c1 : cl ≤ 200
      · have HC9 := Lib.hid c1
        have c1' : ¬ ((200 : Int) < (cl : Int)) := by omega
        clear c1
        go_wp2_with fail
        have hltj := HLT.out
        go_roundw
        case rel => exact ⟨j + 1, by omega, by go_num, Lib.hid (take_all (p := fun t : Tk => decide (codeLen t ≤ 200)) HG.out HK.out (decide_eq_true HC9.out)), Lib.hid (HJ.out.alloc _)⟩
        case measure => simp [intOf]; omega
      · obtain rfl : false = R := by rw [← HR.out]; unfold fewB; rw [all_not (p := fun t : Tk => decide (codeLen t ≤ 200)) HK.out (decide_eq_false c1)]; simp
        have c1' : (200 : Int) < (cl : Int) := by omega
        clear c1
        go_wp2_with fail
        go_ret
        exact ⟨rfl, HJ.out.alloc _⟩
    · obtain rfl : ts.length = j := by omega
      clear hlt hj
      have hgood : R = true := by rw [← HR.out]; unfold fewB; have := HG.out; rw [List.take_length] at this; rw [this]; simp [H1.out]
      subst hgood
      go_wp2_with fail
      go_ret
      exact ⟨rfl, HJ.out⟩
def lightB (l : List Tk) (na : Nat) (dem : List (List Int)) (tk : Int) : Bool := fewB l && decide (na ≤ 200) && decide (dem.length ≤ 20) && decide (tk ≤ 1000 ∨ 65536 < tk) && dem.all (fun r => decide (r.length ≤ 1000))
set_option maxHeartbeats 4000000 in
theorem light_any (a0 : Option Addr) (c0 : Nat) (l : List Tk) (a1 : Option Addr) (na c1 : Nat) (a2 : Option Addr) (c2 : Nat) (dem : List (List Int)) (tk : Int) (W : World) (hT : Reads W 7 (.slice a0 l.length c0) l.length (TkV l)) (hcd : ∀ t ∈ l, CodeSl t) (hD : DemAt W (.slice a2 dem.length c2) dem) :
    Calls Tryd.prog 4 #[.agg #[.slice a0 l.length c0, .slice a1 na c1, .slice a2 dem.length c2, .int .i64 tk]] W fun e W' => e = .returned (.bool (lightB l na dem tk)) ∧ Chg [] W W' := by
  obtain ⟨R, hR⟩ : ∃ R, lightB l na dem tk = R := ⟨_, rfl⟩
  have HR := Lib.hid hR
  rw [hR]
  obtain ⟨W1, hW1⟩ : ∃ z, W.alloc (.cells #[.slice a0 l.length c0, .slice a1 na c1, .slice a2 dem.length c2, .int .i64 tk] 26) = z := ⟨_, rfl⟩
  have HCA : Hid (Chg [] W W1) := Lib.hid (by rw [← hW1]; exact (Chg.refl _ _).alloc _)
  have HBX : Hid (Blk W1 W.heap.size #[.slice a0 l.length c0, .slice a1 na c1, .slice a2 dem.length c2, .int .i64 tk] 26) := Lib.hid (by rw [← hW1]; exact Blk.new W _ _)
  have HFT := Lib.hid (few_any a0 c0 l W1 (hT.fresh HCA.out) hcd)
  obtain ⟨vs, hr, hrow⟩ := hD
  obtain ⟨b1, o1, hx1, hc1, -⟩ := reads_index (P := Tryd.prog) Tryd.underlying24 szSlInt hr
  have HX1 := Lib.hid hx1
  have HC1 := Lib.hid hc1
  have HROW := Lib.hid hrow
  obtain ⟨nd, hnd⟩ : ∃ z, dem.length = z := ⟨_, rfl⟩
  rw [hnd] at HBX HX1 hW1
  have HND := Lib.hid hnd
  obtain ⟨T, hTT⟩ : ∃ T, fewB l = T := ⟨_, rfl⟩
  have HT := Lib.hid hTT
  rw [hTT] at HFT
  have h0 := HBX.out.cell (o := 0) rfl
  have h1 := HBX.out.cell (o := 1) rfl
  have h2 := HBX.out.cell (o := 2) rfl
  have h3 := HBX.out.cell (o := 3) rfl
  rw [hnd]
  clear hT hcd hr hrow hx1 hc1 hR hnd hTT
  by_cases g : T = true ∧ na ≤ 200 ∧ nd ≤ 20 ∧ (tk ≤ 1000 ∨ 65536 < tk)
  rotate_left
  · obtain rfl : false = R := by
      rw [← HR.out]; unfold lightB; rw [HT.out, HND.out]
      cases T with
      | false => rfl
      | true =>
        by_cases g1 : na ≤ 200
        · by_cases g2 : nd ≤ 20
          · rw [decide_eq_false (p := tk ≤ 1000 ∨ 65536 < tk) (fun h => g ⟨rfl, g1, g2, h⟩)]; simp
          · rw [decide_eq_false g2]; simp
        · rw [decide_eq_false g1]; simp
    cases T with
    | false =>
      clear g
      go_enter Tryd.func4, Tryd.ntmps4
      go_wp2_with (go_at_call 8; (try rw [hW1]); refine HFT.out.mono ?_; rintro e w2 ⟨rfl, hc2⟩; have HC2 := Lib.hid (HCA.out.trans hc2); clear hc2)
      go_ret
      exact ⟨rfl, HC2.out⟩
    | true =>
      by_cases g1 : na ≤ 200
      · have g1' : ¬ (200 : Int) < (na : Int) := by omega
        by_cases g2 : nd ≤ 20
        · have g2' : ¬ (20 : Int) < (nd : Int) := by omega
          have g0 : ¬ (tk ≤ 1000 ∨ 65536 < tk) := fun h => g ⟨rfl, g1, g2, h⟩
          have g3 : (1000 : Int) < tk := by omega
          have g4 : tk ≤ 65536 := by omega
          clear g g1 g2
          try clear g0
          go_enter Tryd.func4, Tryd.ntmps4
          go_wp2_with (go_at_call 8; (try rw [hW1]); refine HFT.out.mono ?_; rintro e w2 ⟨rfl, hc2⟩; have HC2 := Lib.hid (HCA.out.trans hc2); have k1 := (HBX.out.keep hc2 (by simp)).cell (o := 1) rfl; have k2 := (HBX.out.keep hc2 (by simp)).cell (o := 2) rfl; have k3 := (HBX.out.keep hc2 (by simp)).cell (o := 3) rfl; clear hc2)
          go_ret
          exact ⟨rfl, HC2.out⟩
        · have g2' : (20 : Int) < (nd : Int) := by omega
          clear g g1 g2
          try clear g0
          go_enter Tryd.func4, Tryd.ntmps4
          go_wp2_with (go_at_call 8; (try rw [hW1]); refine HFT.out.mono ?_; rintro e w2 ⟨rfl, hc2⟩; have HC2 := Lib.hid (HCA.out.trans hc2); have k1 := (HBX.out.keep hc2 (by simp)).cell (o := 1) rfl; have k2 := (HBX.out.keep hc2 (by simp)).cell (o := 2) rfl; have k3 := (HBX.out.keep hc2 (by simp)).cell (o := 3) rfl; clear hc2)
          go_ret
          exact ⟨rfl, HC2.out⟩
      · have g1' : (200 : Int) < (na : Int) := by omega
        clear g g1
        go_enter Tryd.func4, Tryd.ntmps4
        go_wp2_with (go_at_call 8; (try rw [hW1]); refine HFT.out.mono ?_; rintro e w2 ⟨rfl, hc2⟩; have HC2 := Lib.hid (HCA.out.trans hc2); have k1 := (HBX.out.keep hc2 (by simp)).cell (o := 1) rfl; have k2 := (HBX.out.keep hc2 (by simp)).cell (o := 2) rfl; have k3 := (HBX.out.keep hc2 (by simp)).cell (o := 3) rfl; clear hc2)
        go_ret
        exact ⟨rfl, HC2.out⟩
  · obtain ⟨rfl, g1, g2, g3⟩ := g
    have HG := Lib.hid (⟨g1, g2, g3⟩ : _ ∧ _ ∧ _)
    have g1' : ¬ (200 : Int) < (na : Int) := by omega
    have g2' : ¬ (20 : Int) < (nd : Int) := by omega
    have HQ : Hid (∀ b, dem.all (fun r => decide (r.length ≤ 1000)) = b → R = b) := Lib.hid (fun b hb => by rw [← HR.out]; unfold lightB; rw [HT.out, HND.out, decide_eq_true g1, decide_eq_true g2, decide_eq_true g3, hb]; rfl)
    have g5 : tk ≤ 1000 ∨ (¬ tk ≤ 1000 ∧ (1000 : Int) < tk ∧ ¬ tk ≤ 65536) := by omega
    have HNB : Hid (nd ≤ 20) := Lib.hid g2
    rcases g5 with g5 | ⟨g5, g6, g7⟩
    · clear g1 g2 g3 HG
      go_enter Tryd.func4, Tryd.ntmps4
      go_upto_block 4 with (go_at_call 8; (try rw [hW1]); refine HFT.out.mono ?_; rintro e w2 ⟨rfl, hc2⟩; have HC2 := Lib.hid (HCA.out.trans hc2); have k1 := (HBX.out.keep hc2 (by simp)).cell (o := 1) rfl; have k2 := (HBX.out.keep hc2 (by simp)).cell (o := 2) rfl; have k3 := (HBX.out.keep hc2 (by simp)).cell (o := 3) rfl; clear hc2)
      clear hW1 h0 h1 h2 h3 k1 k2 k3 g1' g2' g5
      go_loopw [34] (fun i wr => ∃ j : Nat, Hid (j ≤ nd) ∧ i = .int .i64 j ∧ Hid ((dem.take j).all (fun r => decide (r.length ≤ 1000)) = true) ∧ Hid (Chg [] W wr)) (fun i _ => nd - (intOf i).toNat)
      case atStart => exact ⟨0, Lib.hid (Nat.zero_le _), rfl, Lib.hid rfl, Lib.hid HC2.out⟩
      case round =>
        obtain ⟨j, HJN, rfl, HG, HJ⟩ := hrel
        by_cases hlt : j < nd
        · have HLT := Lib.hid hlt
          have g1 := HX1.out j hlt
          rw [Nat.mul_one] at g1
          obtain ⟨r, hrj⟩ : ∃ r, dem[j]? = some r := ⟨_, List.getElem?_eq_getElem (by rw [HND.out]; exact hlt)⟩
          obtain ⟨rv, hv, hrr⟩ := HROW.out j r hrj
          obtain ⟨ra, rc, rfl⟩ := reads_open hrr
          have q0 := HJ.out.keep (HC1.out j _ hv) (by simp)
          obtain ⟨rn, hrn⟩ : ∃ z, r.length = z := ⟨_, rfl⟩
          rw [hrn] at q0
          have HRN := Lib.hid hrn
          have HK := Lib.hid hrj
          have m3 : (j : Int) < (nd : Int) := by omega
          have hj1000 : (j : Int) < 1000 := by have := HNB.out; omega
          have k8 : IntKind.i64.wrap ((j : Int) + 1) = (j : Int) + 1 := by rw [IntKind.wrap_i64]; omega
          clear hlt hrj hv hrr hrn
          by_cases c1 : rn ≤ 1000
          · have HC9 := Lib.hid c1
            have c1' : ¬ ((1000 : Int) < (rn : Int)) := by omega
            clear c1
            go_wp2_with fail
            have hltj := HLT.out
            go_roundw
            case rel => exact ⟨j + 1, Lib.hid (by omega), by go_num, Lib.hid (take_all (p := fun r : List Int => decide (r.length ≤ 1000)) HG.out HK.out (decide_eq_true (by rw [HRN.out]; exact HC9.out))), HJ⟩
            case measure => simp [intOf]; omega
          · obtain rfl : R = false := HQ.out false (all_not (p := fun r : List Int => decide (r.length ≤ 1000)) HK.out (decide_eq_false (by rw [HRN.out]; exact c1)))
            have c1' : (1000 : Int) < (rn : Int) := by omega
            clear c1
            go_wp2_with fail
            go_ret
            exact ⟨rfl, HJ.out⟩
        · obtain rfl : nd = j := by have := HJN.out; omega
          obtain rfl : R = true := HQ.out true (by have := HG.out; rwa [← HND.out, List.take_length] at this)
          have m3 : ¬ (nd : Int) < (nd : Int) := by omega
          clear hlt
          go_wp2_with fail
          go_ret
          exact ⟨rfl, HJ.out⟩
    · clear g1 g2 g3 HG
      go_enter Tryd.func4, Tryd.ntmps4
      go_upto_block 4 with (go_at_call 8; (try rw [hW1]); refine HFT.out.mono ?_; rintro e w2 ⟨rfl, hc2⟩; have HC2 := Lib.hid (HCA.out.trans hc2); have k1 := (HBX.out.keep hc2 (by simp)).cell (o := 1) rfl; have k2 := (HBX.out.keep hc2 (by simp)).cell (o := 2) rfl; have k3 := (HBX.out.keep hc2 (by simp)).cell (o := 3) rfl; clear hc2)
      clear hW1 h0 h1 h2 h3 k1 k2 k3 g1' g2' g5 g6 g7
      go_loopw [34] (fun i wr => ∃ j : Nat, Hid (j ≤ nd) ∧ i = .int .i64 j ∧ Hid ((dem.take j).all (fun r => decide (r.length ≤ 1000)) = true) ∧ Hid (Chg [] W wr)) (fun i _ => nd - (intOf i).toNat)
      case atStart => exact ⟨0, Lib.hid (Nat.zero_le _), rfl, Lib.hid rfl, Lib.hid HC2.out⟩
      case round =>
        obtain ⟨j, HJN, rfl, HG, HJ⟩ := hrel
        by_cases hlt : j < nd
        · have HLT := Lib.hid hlt
          have g1 := HX1.out j hlt
          rw [Nat.mul_one] at g1
          obtain ⟨r, hrj⟩ : ∃ r, dem[j]? = some r := ⟨_, List.getElem?_eq_getElem (by rw [HND.out]; exact hlt)⟩
          obtain ⟨rv, hv, hrr⟩ := HROW.out j r hrj
          obtain ⟨ra, rc, rfl⟩ := reads_open hrr
          have q0 := HJ.out.keep (HC1.out j _ hv) (by simp)
          obtain ⟨rn, hrn⟩ : ∃ z, r.length = z := ⟨_, rfl⟩
          rw [hrn] at q0
          have HRN := Lib.hid hrn
          have HK := Lib.hid hrj
          have m3 : (j : Int) < (nd : Int) := by omega
          have hj1000 : (j : Int) < 1000 := by have := HNB.out; omega
          have k8 : IntKind.i64.wrap ((j : Int) + 1) = (j : Int) + 1 := by rw [IntKind.wrap_i64]; omega
          clear hlt hrj hv hrr hrn
          by_cases c1 : rn ≤ 1000
          · have HC9 := Lib.hid c1
            have c1' : ¬ ((1000 : Int) < (rn : Int)) := by omega
            clear c1
            go_wp2_with fail
            have hltj := HLT.out
            go_roundw
            case rel => exact ⟨j + 1, Lib.hid (by omega), by go_num, Lib.hid (take_all (p := fun r : List Int => decide (r.length ≤ 1000)) HG.out HK.out (decide_eq_true (by rw [HRN.out]; exact HC9.out))), HJ⟩
            case measure => simp [intOf]; omega
          · obtain rfl : R = false := HQ.out false (all_not (p := fun r : List Int => decide (r.length ≤ 1000)) HK.out (decide_eq_false (by rw [HRN.out]; exact c1)))
            have c1' : (1000 : Int) < (rn : Int) := by omega
            clear c1
            go_wp2_with fail
            go_ret
            exact ⟨rfl, HJ.out⟩
        · obtain rfl : nd = j := by have := HJN.out; omega
          obtain rfl : R = true := HQ.out true (by have := HG.out; rwa [← HND.out, List.take_length] at this)
          have m3 : ¬ (nd : Int) < (nd : Int) := by omega
          clear hlt
          go_wp2_with fail
          go_ret
          exact ⟨rfl, HJ.out⟩
end Go.Proofs.YtfkokbeloenfdaaDoor.krn

/- TopShifts: the reference's New. -/
namespace Go.Proofs.YtfkokbeloenfdaaDoor.krn
open Go Go.RowKit Go.Proofs.YtfkokbeloenfdaaDoor.kit Go.Shelf
set_option linter.unusedVariables false
set_option linter.unusedSimpArgs false
set_option maxRecDepth 20000
def goodB (l : List Tk) : Bool := decide (1 ≤ l.length ∧ l.length ≤ 8) && l.all plainB
theorem infoSlInt : (Tryd.prog.info? 44).map (fun i => (i.zero, i.size, i.bytes)) = some (some (.slice none 0 0), 1, 24) := by kernel_rfl
set_option maxHeartbeats 4000000 in
theorem rNew_any (ta : Option Addr) (tc : Nat) (ts : List Tk) (W : World) (hT : Reads W 7 (.slice ta ts.length tc) ts.length (TkV ts)) (hcd : ∀ t ∈ ts, CodeSl t) :
    Calls Tryd.prog 5 #[.slice ta ts.length tc] W fun e W' => ∃ p, e = .returned (.pointer p) ∧ (p = none ↔ goodB ts = false) ∧ Chg [] W W' := by
  obtain ⟨n, hn⟩ : ∃ z, ts.length = z := ⟨_, rfl⟩
  have HN := Lib.hid hn
  obtain ⟨b1, o1, hx1, hc1, -⟩ := reads_index (P := Tryd.prog) Tryd.underlying22 szTask hT
  rw [hn] at hx1 ⊢
  have HX1 := Lib.hid hx1
  have HC1 := Lib.hid hc1
  have HCD := Lib.hid hcd
  clear hx1 hc1 hT hcd hn
  by_cases g1 : 1 ≤ n
  rotate_left
  · have hg : goodB ts = false := by unfold goodB; rw [HN.out, decide_eq_false (by omega)]; rfl
    have g1' : (n : Int) < 1 := by omega
    clear g1
    go_enter Tryd.func5, Tryd.ntmps5
    go_wp2_with fail
    go_ret
    exact ⟨_, rfl, by simp [hg], Chg.refl _ _⟩
  by_cases g2 : n ≤ 8
  rotate_left
  · have hg : goodB ts = false := by unfold goodB; rw [HN.out, decide_eq_false (by omega)]; rfl
    have g1' : ¬ (n : Int) < 1 := by omega
    have g2' : (8 : Int) < (n : Int) := by omega
    clear g1 g2
    go_enter Tryd.func5, Tryd.ntmps5
    go_wp2_with fail
    go_ret
    exact ⟨_, rfl, by simp [hg], Chg.refl _ _⟩
  have HG := Lib.hid (⟨g1, g2⟩ : _ ∧ _)
  have g1' : ¬ (n : Int) < 1 := by omega
  have g2' : ¬ (8 : Int) < (n : Int) := by omega
  clear g1 g2
  go_enter Tryd.func5, Tryd.ntmps5
  go_upto_block 5 with fail
  obtain ⟨W1, hW1⟩ : ∃ z, W.alloc (.cells #[.slice ta n tc, .slice none 0 0, .slice none 0 0] 48) = z := ⟨_, rfl⟩
  have hs1 : W.heap.size + 1 = W1.heap.size := by rw [← hW1]; simp
  have hcW1 : Chg [] W W1 := by rw [← hW1]; exact (Chg.refl [] W).alloc _
  rw [hW1, hs1]
  obtain ⟨W2, hW2⟩ : ∃ z, W1.alloc (.cells #[.slice ta n tc, .pointer (some ⟨W.heap.size, 0, none⟩), .slice none 0 0, .int .i64 0, .bool false] 50) = z := ⟨_, rfl⟩
  have HB0 : Hid (Blk W2 W1.heap.size #[.slice ta n tc, .pointer (some ⟨W.heap.size, 0, none⟩), .slice none 0 0, .int .i64 0, .bool false] 50) := Lib.hid (by rw [← hW2]; exact Blk.new W1 _ _)
  have HC0 : Hid (Chg [] W W2) := Lib.hid (by rw [← hW2]; exact hcW1.alloc _)
  have HKB : Hid (W.heap.size ≤ W1.heap.size) := Lib.hid hcW1.size
  rw [hW2]
  obtain ⟨kb, hkb⟩ : ∃ z, W1.heap.size = z := ⟨_, rfl⟩
  rw [hkb] at HB0 HKB ⊢
  clear hW1 hs1 hcW1 hW2 hkb
  go_loopw [22] (fun i wr => ∃ (j : Nat) (la : Option Addr) (lc : Nat), Hid (j ≤ n) ∧ i = .int .i64 j ∧ Hid ((ts.take j).all plainB = true) ∧ Hid (Chg [] W wr) ∧ Hid (Blk wr kb #[.slice ta n tc, .pointer (some ⟨W.heap.size, 0, none⟩), .slice la j lc, .int .i64 0, .bool false] 50) ∧ Hid (wr.ownsRow W.heap.size 44 1 (.slice la j lc) j (List.replicate j (.slice none 0 0)))) (fun i _ => n - (intOf i).toNat)
  case atStart => exact ⟨0, none, 0, Lib.hid (Nat.zero_le _), rfl, Lib.hid rfl, HC0, HB0, Lib.hid ⟨rfl, .inl ⟨rfl, rfl⟩⟩⟩
  case round =>
    obtain ⟨j, la, lc, HJN, rfl, HP, HJ, HB, HO⟩ := hrel
    by_cases hlt : j < n
    · have HLT := Lib.hid hlt
      have g1 := HX1.out j hlt
      obtain ⟨⟨kind, prio, period, offset, deadline, own, code⟩, htk⟩ : ∃ t, ts[j]? = some t := ⟨_, List.getElem?_eq_getElem (by rw [HN.out]; exact hlt)⟩
      obtain ⟨ca, cl, cc, hce⟩ := HCD.out _ (List.mem_of_getElem? htk)
      simp only at hce
      subst hce
      have q0 := HJ.out.keep (HC1.out (j * 7 + 0) _ (by unfold TkV; rw [flatMap_get Tk.cells 7 (fun _ => rfl) ts j 0 (by decide) _ htk]; rfl)) (by simp)
      have q1 := HJ.out.keep (HC1.out (j * 7 + 1) _ (by unfold TkV; rw [flatMap_get Tk.cells 7 (fun _ => rfl) ts j 1 (by decide) _ htk]; rfl)) (by simp)
      have q2 := HJ.out.keep (HC1.out (j * 7 + 2) _ (by unfold TkV; rw [flatMap_get Tk.cells 7 (fun _ => rfl) ts j 2 (by decide) _ htk]; rfl)) (by simp)
      have q3 := HJ.out.keep (HC1.out (j * 7 + 3) _ (by unfold TkV; rw [flatMap_get Tk.cells 7 (fun _ => rfl) ts j 3 (by decide) _ htk]; rfl)) (by simp)
      have q4 := HJ.out.keep (HC1.out (j * 7 + 4) _ (by unfold TkV; rw [flatMap_get Tk.cells 7 (fun _ => rfl) ts j 4 (by decide) _ htk]; rfl)) (by simp)
      have q5 := HJ.out.keep (HC1.out (j * 7 + 5) _ (by unfold TkV; rw [flatMap_get Tk.cells 7 (fun _ => rfl) ts j 5 (by decide) _ htk]; rfl)) (by simp)
      have q6 := HJ.out.keep (HC1.out (j * 7 + 6) _ (by unfold TkV; rw [flatMap_get Tk.cells 7 (fun _ => rfl) ts j 6 (by decide) _ htk]; rfl)) (by simp)
      rw [Nat.add_zero] at q0
      rw [← Nat.add_assoc] at q1 q2 q3 q4 q5 q6
      have HK := Lib.hid htk
      have m3 : (j : Int) < (n : Int) := by omega
      have hj1000 : (j : Int) < 1000 := by have := HG.out.2; omega
      have k8 : IntKind.i64.wrap ((j : Int) + 1) = (j : Int) + 1 := by rw [IntKind.wrap_i64]; omega
      have HRP := Lib.hid (fun V => rPlain_any kind prio period offset deadline own (.slice ca cl cc) rfl V)
      obtain ⟨pb, hpb⟩ : ∃ z, plainB ⟨kind, prio, period, offset, deadline, own, .slice ca cl cc⟩ = z := ⟨_, rfl⟩
      rw [hpb] at HRP
      have HPB := Lib.hid hpb
      clear htk hlt hpb
      cases pb with
      | false =>
        have hg : goodB ts = false := by unfold goodB; rw [all_not HK.out HPB.out, Bool.and_false]
        go_wp2_with (go_at_call 9; refine (HRP.out _).mono ?_; rintro e w3 ⟨rfl, hc3⟩; have HC3 := Lib.hid ((HJ.out.alloc _).trans hc3); clear hc3)
        go_ret
        exact ⟨_, rfl, by simp [hg], HC3.out⟩
      | true =>
        obtain ⟨i0, hi0, hz0, hz1, hz2⟩ := info_parts infoSlInt
        have hb1 : j + 1 ≤ maxLen := by have := HG.out.2; unfold maxLen; omega
        have hb2 : (j + 1) * 24 ≤ 140737488355328 := by have := HG.out.2; omega
        go_wp2_with (first
          | (go_at_call 9; refine (HRP.out _).mono ?_; rintro e w3 ⟨rfl, hc3⟩; have HC3 := Lib.hid (((Chg.refl [] wr).alloc (.cells #[.int .i64 kind, .int .i64 prio, .int .i64 period, .int .i64 offset, .int .i64 deadline, .int .i64 own, .slice ca cl cc] 33)).trans hc3); clear hc3; have k2 := (HB.out.keep HC3.out (by simp)).cell (o := 2) rfl; have hcc := Go.cell_one_new w3 (.slice none 0 0) 44; have hOA := own_keep HO.out (HC3.out.alloc (.cells #[.slice none 0 0] 44)) (by simp); have hb3 : W.heap.size ≤ (w3.alloc (.cells #[.slice none 0 0] 44)).heap.size := (by rw [World.size_alloc]; have h1 := HJ.out.size; have h2 := HC3.out.size; omega))
          | (at_builtin; refine wpList_append_own_at _ rfl (.tmp 33) (.tmp 34) 24 rfl W.heap.size 44 i0 (.slice none 0 0) 1 24 Tryd.underlying24 hi0 hz0 hz1 hz2 rfl (by decide) (.slice la j lc) j (List.replicate j (.slice none 0 0)) rfl hOA ⟨w3.heap.size, 0, none⟩ 1 1 _ rfl rfl hcc (by simp [Value.oneCell']) hb1 hb2 hb3 ?_; intro v' w5 hown' hgrow hnil hblk; obtain ⟨la2, lc2, rfl⟩ := own_open hown'; have HKA := Lib.hid (((Chg.refl (Value.slice la j lc).ownBlock.toList w3).alloc (.cells #[.slice none 0 0] 44)).grown hgrow (fun k hk => .inl (Option.mem_toList.2 hk))); have HON := Lib.hid hown'; have HB5 := Lib.hid ((HB.out.keep HC3.out (by simp)).keep HKA.out (fun hm => own_type HO.out HB.out (by decide) _ (Option.mem_toList.1 hm) rfl)); have g2 := HB5.out.cell (o := 2) rfl; have f2 := HB5.out.free 2; clear hown' hgrow hnil hblk))
        have hltj := HLT.out
        have hson : ∀ y ∈ (Value.slice la j lc).ownBlock.toList, W.heap.size ≤ y := fun y hy => (World.ownsRow.lt HO.out y (Option.mem_toList.1 hy)).1
        go_roundw
        case rel =>
          refine ⟨j + 1, la2, lc2, Lib.hid (by omega), by go_num, Lib.hid (take_all HP.out HK.out HPB.out), Lib.hid ?_, Lib.hid (HB5.out.set 2 _), Lib.hid ?_⟩
          · exact ((HJ.out.trans HC3.out).into HKA.out (fun y hy => .inr (hson y hy))).setCell (.inr HKB.out) _
          · rw [List.replicate_succ']
            exact own_keep HON.out ((Chg.refl [kb] w5).setCell (.inl (by simp)) _) (fun y hy hm => own_type HON.out HB5.out (by decide) y hy (List.mem_singleton.1 hm))
        case measure => simp [intOf]; omega
    · obtain rfl : n = j := by have := HJN.out; omega
      have hg : goodB ts = true := by
        unfold goodB
        have h1 := HP.out
        rw [← HN.out, List.take_length] at h1
        rw [h1, HN.out, decide_eq_true HG.out]; rfl
      have m3 : ¬ (n : Int) < (n : Int) := by omega
      clear hlt
      go_wp2_with fail
      go_ret
      exact ⟨_, rfl, by simp [hg], HJ.out⟩
end Go.Proofs.YtfkokbeloenfdaaDoor.krn

/- TopShifts: schedules. -/
namespace Go.Proofs.YtfkokbeloenfdaaDoor.krn
open Go Go.RowKit Go.Proofs.YtfkokbeloenfdaaDoor.kit Go.Shelf
set_option linter.unusedVariables false
set_option linter.unusedSimpArgs false
set_option maxRecDepth 20000
def tk0 : Tk := ⟨1, 0, 3, 0, 3, 1, .slice none 0 0⟩
theorem tk0_plain : ∀ t ∈ [tk0], PlainT t ∧ t.code.oneCell' = true := by
  intro t ht
  rw [List.mem_singleton.1 ht]
  exact ⟨plainB_iff (by decide), rfl⟩
theorem run_tk0 : ((runP [tk0] (askAt []) [] 1).2.map (·.kind)) = [1, 5, 7] := by decide +kernel
theorem ev_kind {w : World} {B g c : Nat} {evs : List Ev} (h : OwnE w B (.slice (some ⟨g, 0, none⟩) evs.length c) evs) (hl : evs.length = 3) (hk : (evs[1]?).map (·.kind) = some 5) : w.cell? ⟨g, 6, none⟩ = some (.int .i64 5) := by
  obtain ⟨e, he, hk2⟩ := Option.map_eq_some_iff.1 hk
  have := (row_cell (enc := Ev.cells) (sz := 5) (fun _ => rfl) h 1 1 (by decide) e he (.int .i64 5) (by rw [← hk2]; rfl)).1
  exact this
theorem nil_reads (w : World) (s : Nat) (h : 0 < s) : Reads w s (.slice none 0 0) 0 [] := Reads.of_own (base := 0) (e := 0) ⟨by simp, .inl ⟨rfl, rfl⟩⟩ h
set_option maxHeartbeats 4000000 in
theorem schedules_any (w : World) (hT : bitm.Tab w) : Calls Tryd.prog 6 #[] w fun e w' => e = .returned (.bool true) ∧ Chg [] w w' := by
  obtain ⟨w1, hw1⟩ : ∃ z, w.alloc (.cells #[.int .i64 1, .int .i64 0, .int .i64 3, .int .i64 0, .int .i64 3, .int .i64 1, .slice none 0 0] 33) = z := ⟨_, rfl⟩
  have hc1 : Chg [] w w1 := by rw [← hw1]; exact (Chg.refl [] w).alloc _
  have hb1 : Blk w1 w.heap.size #[.int .i64 1, .int .i64 0, .int .i64 3, .int .i64 0, .int .i64 3, .int .i64 1, .slice none 0 0] 33 := by rw [← hw1]; exact Blk.new w _ _
  have HC1 := Lib.hid hc1
  have hr : Reads w1 7 (.slice (some ⟨w.heap.size, 0, none⟩) 1 1) 1 (TkV [tk0]) := Reads.of_own (own_new hb1 (Nat.le_refl _) rfl) (by decide)
  have HRUN := Lib.hid (Run_any (.slice (some ⟨w.heap.size, 0, none⟩) 1 1) (.slice none 0 0) (.slice none 0 0) [tk0] [] [] 1 w1 hr ⟨by decide, by decide⟩ tk0_plain (nil_reads _ _ (by decide)) (by decide) (by simp) ⟨[], nil_reads _ _ (by decide), fun j r h => by simp at h⟩ (by decide) (hT.keep hc1))
  obtain ⟨evs, he⟩ : ∃ z, (runP [tk0] (askAt []) [] 1).2 = z := ⟨_, rfl⟩
  rw [he] at HRUN
  obtain ⟨x, y, rfl, hk⟩ : ∃ (x y : List Ev), evs = x ++ y ∧ evs.length = 3 ∧ (evs[1]?).map (·.kind) = some 5 := by
    have h := run_tk0
    rw [he] at h
    refine ⟨[], evs, rfl, ?_, ?_⟩
    · have := congrArg List.length h; simpa using this
    · have := congrArg (fun l => l[1]?) h; simpa using this
  obtain ⟨evs, hev⟩ : ∃ z, x ++ y = z := ⟨_, rfl⟩
  rw [hev] at HRUN hk
  have HK := Lib.hid hk
  obtain ⟨n, hn⟩ : ∃ z, evs.length = z := ⟨_, rfl⟩
  clear hr hb1 hc1 he hk hT hev
  go_enter Tryd.func6, Tryd.ntmps6
  go_wp2_with (go_at_call 7; (try rw [hw1]); refine HRUN.out.mono ?_; rintro e w2 ⟨v, rfl, ho, hc2⟩; have HC2 := Lib.hid (HC1.out.trans hc2); obtain ⟨g, c, rfl, -, -⟩ := own_addr ho (by rw [HK.out.1]; decide); have hk1 := ev_kind ho HK.out.1 HK.out.2; rw [HK.out.1]; clear ho hc2)
  go_ret
  exact ⟨rfl, HC2.out⟩
end Go.Proofs.YtfkokbeloenfdaaDoor.krn

/- TopShifts: a case that is refused. -/
namespace Go.Proofs.YtfkokbeloenfdaaDoor.krn
open Go Go.RowKit Go.Proofs.YtfkokbeloenfdaaDoor.kit Go.Shelf
set_option linter.unusedVariables false
set_option linter.unusedSimpArgs false
set_option maxRecDepth 20000
theorem rNew_good (ta : Option Addr) (tc : Nat) (ts : List Tk) (W : World) (hT : Reads W 7 (.slice ta ts.length tc) ts.length (TkV ts)) (hcd : ∀ t ∈ ts, CodeSl t) (hg : goodB ts = true) :
    Calls Tryd.prog 5 #[.slice ta ts.length tc] W fun e W' => ∃ pa, e = .returned (.pointer (some pa)) ∧ Chg [] W W' := by
  refine (rNew_any ta tc ts W hT hcd).mono ?_
  rintro e w3 ⟨p, rfl, hp, hc3⟩
  cases p with
  | none =>
    have := hp.1 rfl
    rw [hg] at this
    cases this
  | some pa => exact ⟨pa, rfl, hc3⟩
set_option maxHeartbeats 4000000 in
theorem refused (a0 : Option Addr) (c0 : Nat) (l : List Tk) (a1 : Option Addr) (na c1 : Nat) (a2 : Option Addr) (c2 : Nat) (dem : List (List Int)) (tk : Int) (x : Int) (hx : 0 ≤ x ∧ x ≤ 255) (W : World) (hTb : bitm.Tab W) (hT : Reads W 7 (.slice a0 l.length c0) l.length (TkV l)) (hcd : ∀ t ∈ l, CodeSl t) (hD : DemAt W (.slice a2 dem.length c2) dem)
    (hno : ¬ (lightB l na dem tk = true ∧ goodB l = true ∧ 0 ≤ tk ∧ tk ≤ 500)) :
    Calls Tryd.prog 3 #[.agg #[.slice a0 l.length c0, .slice a1 na c1, .slice a2 dem.length c2, .int .i64 tk], .int .u8 x] W fun e W' => e = .returned (.bool true) ∧ Chg [] W W' := by
  obtain ⟨n, hn⟩ : ∃ z, l.length = z := ⟨_, rfl⟩
  obtain ⟨nd, hnd⟩ : ∃ z, dem.length = z := ⟨_, rfl⟩
  rw [hn, hnd]
  obtain ⟨W1, hW1⟩ : ∃ z, W.alloc (.cells #[.slice a0 n c0, .slice a1 na c1, .slice a2 nd c2, .int .i64 tk] 26) = z := ⟨_, rfl⟩
  have HCA : Hid (Chg [] W W1) := Lib.hid (by rw [← hW1]; exact (Chg.refl _ _).alloc _)
  have HBX : Hid (Blk W1 W.heap.size #[.slice a0 n c0, .slice a1 na c1, .slice a2 nd c2, .int .i64 tk] 26) := Lib.hid (by rw [← hW1]; exact Blk.new W _ _)
  have HLI := Lib.hid (light_any a0 c0 l a1 na c1 a2 c2 dem tk W1 (hT.fresh HCA.out) hcd (hD.fresh HCA.out))
  have HNW := Lib.hid (fun V (hV : Chg [] W V) => rNew_any a0 c0 l V (hT.fresh hV) hcd)
  have HNG := Lib.hid (fun V (hV : Chg [] W V) hg => rNew_good a0 c0 l V (hT.fresh hV) hcd hg)
  have HSC := Lib.hid (fun V (hV : Chg [] W V) => schedules_any V (hTb.keep hV))
  rw [hn, hnd] at HLI
  rw [hn] at HNW HNG
  have h0 := HBX.out.cell (o := 0) rfl
  have h1 := HBX.out.cell (o := 1) rfl
  have h2 := HBX.out.cell (o := 2) rfl
  have h3 := HBX.out.cell (o := 3) rfl
  obtain ⟨lb, hlb⟩ : ∃ z, lightB l na dem tk = z := ⟨_, rfl⟩
  rw [hlb] at hno HLI
  clear hT hcd hD hTb hn hnd hlb
  cases lb with
  | false =>
    clear hno
    go_enter Tryd.func3, Tryd.ntmps3
    go_wp2_with (first
      | (go_at_call 4; (try rw [hW1]); refine HLI.out.mono ?_; rintro e w2 ⟨rfl, hc2⟩; have HC2 := Lib.hid (HCA.out.trans hc2); clear hc2)
      | (go_at_call 6; refine (HSC.out _ HC2.out).mono ?_; rintro e w3 ⟨rfl, hc3⟩; have HC3 := Lib.hid (HC2.out.trans hc3); clear hc3))
    go_ret
    exact ⟨rfl, HC3.out⟩
  | true =>
    cases hg : goodB l with
    | false =>
      clear hno
      go_enter Tryd.func3, Tryd.ntmps3
      go_wp2_with (first
        | (go_at_call 4; (try rw [hW1]); refine HLI.out.mono ?_; rintro e w2 ⟨rfl, hc2⟩; have HC2 := Lib.hid (HCA.out.trans hc2); have k0 := (HBX.out.keep hc2 (by simp)).cell (o := 0) rfl; have k3 := (HBX.out.keep hc2 (by simp)).cell (o := 3) rfl; clear hc2)
        | (go_at_call 5; refine (HNW.out _ HC2.out).mono ?_; rintro e w3 ⟨p, rfl, hp, hc3⟩; obtain rfl : p = none := hp.2 hg; have HC3 := Lib.hid (HC2.out.trans hc3); clear hc3 hp)
        | (go_at_call 6; refine (HSC.out _ HC3.out).mono ?_; rintro e w4 ⟨rfl, hc4⟩; have HC4 := Lib.hid (HC3.out.trans hc4); clear hc4))
      go_ret
      exact ⟨rfl, HC4.out⟩
    | true =>
      have g1 : tk < 0 ∨ (¬ tk < 0 ∧ 500 < tk) := by
        by_cases h : tk < 0
        · exact .inl h
        · exact .inr ⟨h, by
            rcases Int.lt_or_le 500 tk with h2 | h2
            · exact h2
            · exact absurd ⟨rfl, hg, by omega, h2⟩ hno⟩
      clear hno
      rcases g1 with g1 | ⟨g1, g2⟩
      all_goals
        go_enter Tryd.func3, Tryd.ntmps3
        go_wp2_with (first
          | (go_at_call 4; (try rw [hW1]); refine HLI.out.mono ?_; rintro e w2 ⟨rfl, hc2⟩; have HC2 := Lib.hid (HCA.out.trans hc2); have k0 := (HBX.out.keep hc2 (by simp)).cell (o := 0) rfl; have HB2 := Lib.hid (HBX.out.keep hc2 (by simp)); clear hc2)
          | (go_at_call 5; refine (HNG.out _ HC2.out hg).mono ?_; rintro e w3 ⟨pa, rfl, hc3⟩; have HC3 := Lib.hid (HC2.out.trans hc3); have k3 := (HB2.out.keep hc3 (by simp)).cell (o := 3) rfl; clear hc3)
          | (go_at_call 6; refine (HSC.out _ HC3.out).mono ?_; rintro e w4 ⟨rfl, hc4⟩; have HC4 := Lib.hid (HC3.out.trans hc4); clear hc4))
        go_ret
        exact ⟨rfl, HC4.out⟩
end Go.Proofs.YtfkokbeloenfdaaDoor.krn
