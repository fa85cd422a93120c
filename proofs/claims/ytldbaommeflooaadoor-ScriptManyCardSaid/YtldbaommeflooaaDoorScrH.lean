/- Scripts: strings.Builder's WriteString, and script.Print. -/
import Derived.Test.YtldbaommeflooaaDoorScrP
import Derived.Lib.MakeNoZero
import Derived.Laws.Externs
import Derived.Laws.IdiomCopy
import Derived.Shelf.Strings.Builder1
namespace Go.Proofs.YtldbaommeflooaaDoor.scr
open Go Go.RowKit Go.Proofs.YtldbaommeflooaaDoor.kit Go.Proofs.YtldbaommeflooaaDoor.word Go.Shelf
set_option linter.unusedVariables false
set_option linter.unusedSimpArgs false
set_option maxRecDepth 100000
theorem infoByte : (Tryd.prog.info? 5).map (fun i => (i.zero, i.size, i.bytes)) = some (some (.int .u8 0), 1, 1) := by kernel_rfl
set_option maxHeartbeats 1000000 in
theorem copyCheck_used (b : Nat) (w : World) (h0 : w.cell? ⟨b, 0, none⟩ = some (.pointer (some ⟨b, 0, none⟩))) :
    Calls Tryd.prog 39 #[.pointer (some ⟨b, 0, none⟩)] w fun e w' => e = .returned (.tuple #[]) ∧ w' = w := by
  obtain ⟨j, hj, _⟩ := Option.map_eq_some_iff.1 (show (Tryd.prog.info? 53).map (·.size) = some 2 by kernel_rfl)
  go_enter Tryd.func39, Tryd.ntmps39
  go_wp2
  rw [Lib.run_neq_ptr_same w _ Tryd.underlying50 hj]
  go_wp2
  go_end0
  exact ⟨rfl, rfl⟩
set_option maxHeartbeats 1000000 in
theorem copyCheck_fresh (b : Nat) (w : World) (h0 : w.cell? ⟨b, 0, none⟩ = some (.pointer none)) (hsh : w.shape? b = some (53, 2)) (hfz : w.frozen? ⟨b, 0, none⟩ = false) :
    Calls Tryd.prog 39 #[.pointer (some ⟨b, 0, none⟩)] w fun e w' => e = .returned (.tuple #[]) ∧ w' = w.setCell ⟨b, 0, none⟩ (.pointer (some ⟨b, 0, none⟩)) := by
  obtain ⟨j, hj, hjs⟩ := Option.map_eq_some_iff.1 (show (Tryd.prog.info? 53).map (·.size) = some 2 by kernel_rfl)
  go_enter Tryd.func39, Tryd.ntmps39
  go_wp2
  rw [Lib.run_to_unsafe w ⟨b, 0, none⟩ Tryd.underlying50 Tryd.underlying76 hj (by rw [hjs]; decide) hsh (Nat.zero_lt_succ 1)]
  simp only [Result.andThen]
  rw [Oper.upon_value]
  go_wp2
  rw [run_callFunc_extern Tryd.func47 (by kernel_rfl) (by kernel_rfl) (by kernel_rfl) (e := Extern.AbiNoEscape.same) (by kernel_rfl)]
  rw [Lib.run_noEscape]
  simp only [Result.andThen]
  rw [Oper.upon_value]
  go_wp2
  rw [Lib.run_from_unsafe w ⟨b, 0, none⟩ Tryd.underlying76 Tryd.underlying50 hj hsh (by kernel_rfl)]
  simp only [Result.andThen]
  rw [Oper.upon_value]
  go_wp2
  go_end0
  exact ⟨rfl, rfl⟩
theorem copyCheck_any (B b : Nat) (bs : List Value) (w : World) (h : Lib.IsBuilder 53 5 B b bs w) :
    Calls Tryd.prog 39 #[.pointer (some ⟨b, 0, none⟩)] w fun e w' => e = .returned (.tuple #[]) ∧ (Lib.BuilderAt 53 5 B b (.pointer (some ⟨b, 0, none⟩)) bs w' ∧ Below B w w') := by
  rcases h with h | h
  · refine (copyCheck_fresh b w h.cell0 h.shape h.frozen0).mono ?_
    rintro e w' ⟨rfl, rfl⟩
    exact ⟨rfl, h.used _, (Below.refl B w).setCell (p := ⟨b, 0, none⟩) h.1 _⟩
  · refine (copyCheck_used b w h.cell0).mono ?_
    rintro e w' ⟨rfl, rfl⟩
    exact ⟨rfl, h, Below.refl B _⟩
set_option maxHeartbeats 2000000 in
theorem WriteString_any (B b : Nat) (bs : List Value) (s : ByteArray) (w : World) (h : Lib.IsBuilder 53 5 B b bs w) (hlen : bs.length + s.size ≤ 140737488355328) (hBw : B ≤ w.heap.size) :
    Calls Tryd.prog 27 #[.pointer (some ⟨b, 0, none⟩), .string s] w fun e w' => e = .returned (.tuple #[.int .i64 s.size, .nilIface]) ∧ (Lib.BuilderAt 53 5 B b (.pointer (some ⟨b, 0, none⟩)) (bs ++ Lib.strCells s) w' ∧ Below B w w') := by
  obtain ⟨i0, hi, hz0, hz1, hz2⟩ := info_parts infoByte
  go_enter Tryd.func27, Tryd.ntmps27
  go_wp2_with (go_at_call 39; refine (copyCheck_any B b bs _ h).mono ?_)
  rintro e w1 ⟨rfl, h1, hb1⟩
  obtain ⟨hB, v, hbk, hown, hne⟩ := h1
  have c0 : w1.cell? ⟨b, 0, none⟩ = some (.pointer (some ⟨b, 0, none⟩)) := by rw [Lib.cell_of_heap hbk]; rfl
  have c1 : w1.cell? ⟨b, 1, none⟩ = some v := by rw [Lib.cell_of_heap hbk]; rfl
  go_wp2_with (at_builtin; refine Lib.wpList_append_own_string _ rfl _ _ 51 9 rfl B 5 i0 Tryd.underlying51 Tryd.underlying9 hi hz0 hz1 hz2 _ _ _ rfl hown s rfl ?c3 ?c4 ?c5 ?_)
  case c3 => unfold maxLen; omega
  case c4 => omega
  case c5 => have := hb1.size; omega
  intro v' w2 hown' hgrow _
  have hlt : b < w1.heap.size := by
    rcases Nat.lt_or_ge b w1.heap.size with h' | h'
    · exact h'
    · simp [Array.getElem?_eq_none h'] at hbk
  have hb2 : w2.heap[b]? = some (.cells #[.pointer (some ⟨b, 0, none⟩), v] 53 (0, 0)) := by
    rw [hgrow.block b hlt (fun e => hne e.symm)]
    exact hbk
  have d0 : w2.cell? ⟨b, 0, none⟩ = some (.pointer (some ⟨b, 0, none⟩)) := by rw [Lib.cell_of_heap hb2]; rfl
  have d1 : w2.cell? ⟨b, 1, none⟩ = some v := by rw [Lib.cell_of_heap hb2]; rfl
  have f1 : w2.frozen? ⟨b, 1, none⟩ = false := Lib.frozen_of_heap hb2 1
  obtain ⟨ao, n', cap, rfl⟩ : ∃ ao n' cap, v' = .slice ao n' cap := by
    rcases hown'.2 with ⟨hv, _⟩ | ⟨g, cap, cur, hv, _⟩
    · exact ⟨_, _, _, hv⟩
    · exact ⟨_, _, _, hv⟩
  go_wp2
  go_ret2
  refine ⟨rfl, ?_, ?_⟩
  · exact Lib.BuilderAt.put (T := 53) (e := 5) hB hb2 (bs' := bs ++ Lib.strCells s) (by simpa [Lib.strCells_length] using hown') (by decide)
  · exact (hb1.grown hgrow (by have := hb1.size; omega) (fun k hk => (hown.lt k hk).1)).setCell (p := ⟨b, 1, none⟩) hB _
abbrev BuildsB (B b : Nat) (l : List UInt8) (w : World) : Prop := Lib.IsBuilder 53 5 B b (Lib.byteCells l) w
theorem ownsRow_chg {w w' : World} {B s n : Nat} {T : TypeId} {v : Value} {l : List Value} (h : w.ownsRow B T s v n l) (k : Chg [] w w') : w'.ownsRow B T s v n l := by
  obtain ⟨h1, h2⟩ := h
  refine ⟨h1, ?_⟩
  rcases h2 with h2 | ⟨g, cap, cur, rfl, hB, hg, h3⟩
  · exact .inl h2
  · exact .inr ⟨g, cap, cur, rfl, hB, k.heap hg (by simp), h3⟩
theorem BuildsB.keep {B b : Nat} {l : List UInt8} {w w' : World} (h : BuildsB B b l w) (k : Chg [] w w') : BuildsB B b l w' := by
  rcases h with ⟨hB, v, hb, ho, hn⟩ | ⟨hB, v, hb, ho, hn⟩
  · exact .inl ⟨hB, v, k.heap hb (by simp), ownsRow_chg ho k, hn⟩
  · exact .inr ⟨hB, v, k.heap hb (by simp), ownsRow_chg ho k, hn⟩
theorem Write_ok (B b : Nat) (l s : List UInt8) (w : World) (h : BuildsB B b l w) (hlen : l.length + s.length ≤ 140737488355328) (hBw : B ≤ w.heap.size) :
    Calls Tryd.prog 27 #[.pointer (some ⟨b, 0, none⟩), strV s] w fun e w' => e = .returned (.tuple #[.int .i64 s.length, .nilIface]) ∧ BuildsB B b (l ++ s) w' ∧ Below B w w' := by
  refine (WriteString_any B b (Lib.byteCells l) ⟨s.toArray⟩ w h (by simpa [Lib.byteCells, ByteArray.size] using hlen) hBw).mono ?_
  rintro e w' ⟨rfl, h1, h2⟩
  refine ⟨by simp [ByteArray.size], .inr ?_, h2⟩
  have : Lib.byteCells l ++ Lib.strCells ⟨s.toArray⟩ = Lib.byteCells (l ++ s) := by simp [Lib.byteCells, Lib.strCells]
  rwa [this] at h1
theorem BString_any (B b : Nat) (l : List UInt8) (w : World) (h : BuildsB B b l w) (hBw : B ≤ w.heap.size) :
    Calls Tryd.prog 29 #[.pointer (some ⟨b, 0, none⟩)] w fun e w' => e = .returned (strV l) ∧ Below B w w' := by
  cases l with
  | nil => exact Tryd.Builder_String_empty B b w h hBw
  | cons x r => exact Tryd.Builder_String B b (x :: r) w h (by simp)
theorem textL_snoc {l : List Ac} {j : Nat} {a : Ac} (h : l[j]? = some a) : textL (l.take (j + 1)) = textL (l.take j) ++ (lineL a ++ [10]) := by
  have hj := List.getElem?_eq_some_iff.1 h
  rw [List.take_succ_eq_append_getElem hj.1, hj.2]
  simp [textL]
set_option maxHeartbeats 4000000 in
theorem Print_any (va : Option Addr) (vc : Nat) (l : List Ac) (W : World) (hr : ReadsA W (.slice va l.length vc) l) (hT : TabS W) :
    Calls Tryd.prog 17 #[.slice va l.length vc] W fun e W' => e = .returned (.tuple #[strV (printR l).1, .bool (printR l).2]) ∧ Chg [] W W' := by
  obtain ⟨R, hR⟩ : ∃ R, printR l = R := ⟨_, rfl⟩
  rw [hR]
  have hrt := Right_any va vc l W hr
  have HRT := Lib.hid hrt
  cases hra : rightA l
  · obtain rfl : ([], false) = R := by rw [← hR]; unfold printR; rw [hra]; rfl
    clear hR hrt
    rw [hra] at HRT
    go_enter Tryd.func17, Tryd.ntmps17
    go_wp2_with (go_at_call 11; refine HRT.out.mono ?_; rintro e w1 ⟨rfl, hc1⟩)
    go_ret2
    exact ⟨rfl, hc1⟩
  · obtain rfl : (textL l, true) = R := by rw [← hR]; unfold printR; rw [hra]; rfl
    clear hR hrt
    rw [hra] at HRT
    have HRA := Lib.hid hr
    have HT := Lib.hid hT
    have HRP := Lib.hid (rightA_parts hra)
    obtain ⟨b1, o1, hx1, hc1, -⟩ := reads_index (P := Tryd.prog) Tryd.underlying22 szAct hr.1
    have HX1 := Lib.hid hx1
    have HC1 := Lib.hid hc1
    clear hr hT hra hx1 hc1
    go_enter Tryd.func17, Tryd.ntmps17
    go_wp2_with (go_at_call 11; refine HRT.out.mono ?_; rintro e w1 ⟨rfl, hcg1⟩)
    have hb0 : BuildsB W.heap.size w1.heap.size [] (w1.alloc (.cells #[.pointer none, .slice none 0 0] 53)) :=
      .inl ⟨hcg1.size, .slice none 0 0, Blk.new w1 _ _, World.ownsRow_nil .., by simp [Value.ownBlock]⟩
    have hw1 := Lib.hid hcg1.size
    go_loopw [12] (fun i wr => ∃ j : Nat, j ≤ l.length ∧ i = .int .i64 j ∧ Hid (Chg [] W wr) ∧ Hid (BuildsB W.heap.size w1.heap.size (textL (l.take j)) wr)) (fun i _ => l.length - (intOf i).toNat)
    case atStart => exact ⟨0, Nat.zero_le _, rfl, Lib.hid (hcg1.alloc _), Lib.hid hb0⟩
    case round =>
      obtain ⟨j, hj, rfl, HJ, HB⟩ := hrel
      clear hb0
      by_cases hlt : j < l.length
      · have HLT := Lib.hid hlt
        have g1 := HX1.out j hlt
        obtain ⟨⟨k, n⟩, htk⟩ : ∃ t, l[j]? = some t := ⟨_, List.getElem?_eq_getElem hlt⟩
        have q0 := HJ.out.keep (HC1.out (j * 2 + 0) _ (by rw [flatMap_get Ac.cells 2 (fun _ => rfl) l j 0 (by decide) _ htk]; rfl)) (by simp)
        have q1 := HJ.out.keep (HC1.out (j * 2 + 1) _ (by rw [flatMap_get Ac.cells 2 (fun _ => rfl) l j 1 (by decide) _ htk]; rfl)) (by simp)
        rw [Nat.add_zero] at q0
        rw [← Nat.add_assoc] at q1
        have hone : oneB ⟨k, n⟩ = true := List.all_eq_true.1 HRP.out.1 _ (List.mem_of_getElem? htk)
        have HBD := Lib.hid (oneB_bd hone)
        have hll := lineL_len (a := ⟨k, n⟩) HBD.out.1 HBD.out.2
        have HTX := Lib.hid (textL_snoc htk)
        have htl := textL_len (l.take j) (List.all_eq_true.2 fun x hx => List.all_eq_true.1 HRP.out.1 x (List.mem_of_mem_take hx))
        rw [List.length_take] at htl
        obtain ⟨ln, hln⟩ : ∃ ln, lineL ⟨k, n⟩ = ln := ⟨_, rfl⟩
        have HLN := Lib.hid hln
        rw [hln] at hll
        have HTL : Hid ((textL (l.take j)).length + (ln ++ [10]).length ≤ 140737488355328) := Lib.hid (by have := HRP.out.2.1; simp; omega)
        have k8 : IntKind.i64.wrap ((j : Int) + 1) = (j : Int) + 1 := by rw [IntKind.wrap_i64]; have := HRP.out.2.1; omega
        have e1 : (ByteArray.mk ln.toArray) ++ (ByteArray.mk #[10]) = ⟨(ln ++ [10]).toArray⟩ := ByteArray.mk_append_mk ln [10]
        have s1 : (ByteArray.mk ln.toArray).size + (ByteArray.mk #[10]).size ≤ 9223372036854775807 := by simp [ByteArray.size]; omega
        have r1 := fun w => run_string_add_sum (P := Tryd.prog) (w := w) _ _ s1
        rw [e1] at r1
        clear htk hj hlt hone hll htl hln s1 e1
        go_wp2_with (first | (go_at_call 28; refine (line_any _ _ HBD.out.1 HBD.out.2 _ (HT.out.keep (HJ.out.alloc _))).mono ?_; rintro e wl ⟨rfl, hcl⟩; rw [HLN.out]) | (go_at_call 27; refine (Write_ok W.heap.size w1.heap.size _ _ _ (BuildsB.keep HB.out (((Chg.refl [] _).alloc _).trans hcl)) HTL.out (Nat.le_trans HJ.out.size (((Chg.refl [] _).alloc _).trans hcl).size)).mono ?_; rintro e wf ⟨rfl, hbf, hcf⟩))
        have hltj := HLT.out
        go_roundw
        case rel => exact ⟨j + 1, by omega, by go_num, Lib.hid (Chg.of_below ((HJ.out.trans (((Chg.refl [] _).alloc _).trans hcl)).below.trans hcf)), Lib.hid (by rw [HTX.out, HLN.out]; exact hbf)⟩
        case measure => simp [intOf]; omega
      · obtain rfl : l.length = j := by omega
        clear hlt hj
        rw [List.take_length] at HB
        go_wp2_with (go_at_call 29; refine (BString_any W.heap.size w1.heap.size _ _ HB.out HJ.out.size).mono ?_; rintro e wf ⟨rfl, hcf⟩)
        go_ret2
        exact ⟨rfl, Chg.of_below (HJ.out.below.trans hcf)⟩
end Go.Proofs.YtldbaommeflooaaDoor.scr
