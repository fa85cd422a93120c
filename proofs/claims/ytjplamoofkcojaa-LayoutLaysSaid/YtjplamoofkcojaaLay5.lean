/- Systems: mem.Cut, slices.Clone of regions. -/
import Derived.Test.YtjplamoofkcojaaLay4
namespace Go.Proofs.Ytjplamoofkcojaa.lay
open Go Go.RowKit Go.Proofs.Ytjplamoofkcojaa.kit Go.Proofs.Ytjplamoofkcojaa.obj Go.Proofs.Ytjplamoofkcojaa.mem
set_option linter.unusedVariables false
set_option linter.unusedSimpArgs false
set_option maxRecDepth 200000

def sumI : List Int → Int
  | [] => 0
  | n :: r => n + sumI r
theorem sumI_append (a b : List Int) : sumI (a ++ b) = sumI a + sumI b := by
  induction a with
  | nil => simp [sumI]
  | cons n r ih => simp [sumI, ih]; omega
def nonneg (zs : List Int) : Prop := ∀ z ∈ zs, 0 ≤ z ∧ z ≤ 1000000
theorem sumI_nn {zs : List Int} (h : nonneg zs) : 0 ≤ sumI zs := by
  induction zs with
  | nil => simp [sumI]
  | cons n r ih =>
    have h1 := h n (List.mem_cons_self ..)
    have h2 := ih (fun z hz => h z (List.mem_cons_of_mem _ hz))
    simp [sumI]; omega
theorem sumI_take {zs : List Int} {j : Nat} {x : Int} (h : zs[j]? = some x) : sumI (zs.take (j + 1)) = sumI (zs.take j) + x := by
  have hj := List.getElem?_eq_some_iff.1 h
  rw [List.take_succ_eq_append_getElem hj.1, sumI_append, hj.2]
  simp [sumI]
theorem sumI_le {zs : List Int} (h : nonneg zs) (j : Nat) : sumI (zs.take j) ≤ sumI zs := by
  have h1 : sumI zs = sumI (zs.take j) + sumI (zs.drop j) := by rw [← sumI_append, List.take_append_drop]
  have h2 : 0 ≤ sumI (zs.drop j) := sumI_nn (fun z hz => h z (List.mem_of_mem_drop hz))
  omega
/-- regions of some lengths, one behind the other -/
def cutL : Int → List Int → List (Int × Int)
  | _, [] => []
  | at_, n :: r => (at_, n) :: cutL (at_ + n) r
theorem cutL_append (at_ : Int) (a b : List Int) : cutL at_ (a ++ b) = cutL at_ a ++ cutL (at_ + sumI a) b := by
  induction a generalizing at_ with
  | nil => simp [cutL, sumI]
  | cons n r ih => simp only [List.cons_append, cutL, sumI, ih]; rw [show at_ + n + sumI r = at_ + (n + sumI r) by omega]
theorem cutL_length (at_ : Int) (a : List Int) : (cutL at_ a).length = a.length := by
  induction a generalizing at_ with
  | nil => rfl
  | cons n r ih => simp [cutL, ih]
theorem cutL_take {zs : List Int} {j : Nat} {x : Int} (h : zs[j]? = some x) : cutL 0 (zs.take (j + 1)) = cutL 0 (zs.take j) ++ [(sumI (zs.take j), x)] := by
  have hj := List.getElem?_eq_some_iff.1 h
  rw [List.take_succ_eq_append_getElem hj.1, cutL_append, hj.2]
  simp [cutL]
def ReadsI (w : World) (v : Value) (zs : List Int) : Prop := Reads w 1 v zs.length (zs.map (Value.int .i64))
theorem ReadsI.chg {w w' : World} {v : Value} {zs : List Int} (h : ReadsI w v zs) (k : Chg [] w w') : ReadsI w' v zs := Reads.fresh h k
theorem OwnI.reads {w : World} {B : Nat} {v : Value} {zs : List Int} (h : OwnI w B v zs) : ReadsI w v zs := Reads.of_own h (by decide)
theorem neg_any (n : Int) (W : World) (hn : 0 ≤ n) : Calls Try.prog 78 #[.int .i64 n] W fun e W' => e = .returned (.bool false) ∧ W = W' := by
  have hb : decide (n < 0) = false := by simp; omega
  have hn2 : ¬ n < 0 := by omega
  go_enter Try.func78, Try.ntmps78
  go_wp2_with fail
  go_ret
  exact ⟨ret_bool (by first | rfl | (simp; done) | (simp; omega)), rfl⟩
set_option maxHeartbeats 2000000 in
theorem IndexI_any (v : Value) (zs : List Int) (W : World) (hr : ReadsI W v zs) (hl : zs.length ≤ 10000) (hz : nonneg zs) :
    Calls Try.prog 102 #[v, .func (.func 78) #[] #[]] W fun e W' => e = .returned (.int .i64 (-1)) ∧ Chg [] W W' := by
  obtain ⟨bb, off, hix, hcell, hown⟩ := reads_index (P := Try.prog) Try.underlying24 szInt hr
  obtain ⟨va, vc, rfl, _⟩ := reads_slice hr
  have HX := Lib.hid hix
  have HC := Lib.hid hcell
  have HZ := Lib.hid hz
  have HL := Lib.hid hl
  clear hix hcell hown hr hz hl
  go_enter Try.func102, Try.ntmps102
  go_wp2_with fail
  go_loopw [5, 8] (fun _ i wr => ∃ j : Nat, j ≤ zs.length ∧ i = .int .i64 j ∧ Hid (Chg [] W wr)) (fun _ i _ => zs.length - (intOf i).toNat)
  case atStart => exact ⟨0, Nat.zero_le _, rfl, Lib.hid (Chg.refl _ _)⟩
  case round =>
    obtain ⟨j, hj, rfl, HJ⟩ := hrel
    by_cases hlt : j < zs.length
    · have HLT := Lib.hid hlt
      have g1 := HX.out j hlt
      obtain ⟨x, hxk⟩ : ∃ x, zs[j]? = some x := ⟨_, List.getElem?_eq_getElem hlt⟩
      have q0 := HJ.out.keep (HC.out j (.int .i64 x) (by rw [List.getElem?_map, hxk]; rfl)) (by simp)
      have HXX : Hid (0 ≤ x) := Lib.hid (HZ.out _ (List.mem_of_getElem? hxk)).1
      rw [Nat.mul_one] at g1
      have hj1000 : (j : Int) < 10000 := by have := HL.out; omega
      have k8 : IntKind.i64.wrap ((j : Int) + 1) = (j : Int) + 1 := by rw [IntKind.wrap_i64]; omega
      clear hxk hj hlt
      go_wp2_with (go_at_call 78; refine (neg_any x _ HXX.out).mono ?_; rintro e w1 ⟨rfl, rfl⟩)
      have hltj := HLT.out
      go_roundw
      case rel => exact ⟨j + 1, by omega, by go_num, HJ⟩
      case measure => simp [intOf]; omega
    · obtain rfl : zs.length = j := by omega
      clear hlt hj
      go_wp2_with fail
      go_ret
      exact ⟨rfl, HJ.out⟩
theorem HasNeg_any (v : Value) (zs : List Int) (W : World) (hr : ReadsI W v zs) (hl : zs.length ≤ 10000) (hz : nonneg zs) :
    Calls Try.prog 77 #[v, .func (.func 78) #[] #[]] W fun e W' => e = .returned (.bool false) ∧ Chg [] W W' := by
  have HI := Lib.hid (IndexI_any v zs W hr hl hz)
  clear hr hl hz
  go_enter Try.func77, Try.ntmps77
  go_wp2_with (go_at_call 102; refine HI.out.mono ?_; rintro e w1 ⟨rfl, hc⟩; have HC := Lib.hid hc; clear hc)
  go_ret
  exact ⟨rfl, HC.out⟩
theorem reads_reg (w : World) (a b : Int) : Reads (w.alloc (.cells #[.int .i64 a, .int .i64 b] 58)) 2 (.slice (some ⟨w.heap.size, 0, none⟩) 1 1) 1 (rcells (a, b)) :=
  ⟨rfl, by decide, .inr ⟨by decide, w.heap.size, 0, 1, rfl, Nat.le_refl _, by decide, fun i u hu => by rw [Nat.zero_add]; exact (Blk.new w _ _).cell (by simpa [rcells] using hu)⟩⟩
theorem rcells_one (rs : List (Int × Int)) : ∀ u ∈ rs.flatMap rcells, u.oneCell' = true := by
  intro u hu
  obtain ⟨r, _, h⟩ := List.mem_flatMap.1 hu
  simp [rcells] at h
  rcases h with rfl | rfl <;> rfl
theorem OwnR.add {w : World} {B : Nat} {v : Value} {rs : List (Int × Int)} {r : Int × Int} (h : w.ownsRow B 58 2 v (rs.length + 1) (rs.flatMap rcells ++ rcells r)) : OwnR w B v (rs ++ [r]) := by
  unfold OwnR
  rw [List.length_append, List.flatMap_append]
  simpa using h

set_option maxHeartbeats 4000000 in
theorem Cut_any (v : Value) (zs : List Int) (W : World) (hr : ReadsI W v zs) (hl : zs.length ≤ 10000) (hz : nonneg zs) :
    Calls Try.prog 51 #[.int .i64 4096, v] W fun e W' => ∃ v', e = .returned (.tuple #[v', .int .i64 (if sumI zs ≤ 4096 then 0 else 6)]) ∧ OwnR W' W.heap.size v' (if sumI zs ≤ 4096 then cutL 0 zs else []) ∧ Chg [] W W' := by
  obtain ⟨i0, hi, hz0, hz1, hz2⟩ := info_parts infoReg
  have HI0 : Hid (Try.prog.info? 58 = some i0 ∧ i0.zero = some (.agg #[.int .i64 0, .int .i64 0]) ∧ i0.size = 2 ∧ i0.bytes = 16) := Lib.hid ⟨hi, hz0, hz1, hz2⟩
  obtain ⟨cd, hcd⟩ : ∃ cd : Int, (if sumI zs ≤ 4096 then 0 else 6) = cd := ⟨_, rfl⟩
  obtain ⟨rr, hrr⟩ : ∃ rr, (if sumI zs ≤ 4096 then cutL 0 zs else []) = rr := ⟨_, rfl⟩
  rw [hcd, hrr]
  have HCD := Lib.hid hcd
  have HRR := Lib.hid hrr
  clear hcd hrr
  have HH := Lib.hid (HasNeg_any v zs W hr hl hz)
  obtain ⟨bb, off, hix, hcell, hown⟩ := reads_index (P := Try.prog) Try.underlying24 szInt hr
  obtain ⟨va, vc, rfl, _⟩ := reads_slice hr
  have HX := Lib.hid hix
  have HC := Lib.hid hcell
  have HZ := Lib.hid hz
  have HL := Lib.hid hl
  clear hi hz0 hz1 hz2 hix hcell hown hr hz hl
  go_enter Try.func51, Try.ntmps51
  go_wp2_with (go_at_call 77; refine HH.out.mono ?_; rintro e w1 ⟨rfl, hc⟩; have HW1 := Lib.hid hc; clear hc)
  go_loopw [6, 7, 9, 14] (fun o6 at0 _ i wr => ∃ (j : Nat) (at_ : Int) (ov : Value), j ≤ zs.length ∧ i = .int .i64 j ∧ at0 = .int .i64 at_ ∧ ov = o6 ∧ Hid (at_ = sumI (zs.take j) ∧ at_ ≤ 4096) ∧ Hid (OwnR wr W.heap.size ov (cutL 0 (zs.take j))) ∧ Hid (Chg [] W wr)) (fun _ _ _ i _ => zs.length - (intOf i).toNat)
  case atStart => exact ⟨0, 0, _, Nat.zero_le _, rfl, rfl, rfl, Lib.hid ⟨rfl, by omega⟩, Lib.hid (World.ownsRow_nil _ _ _ _), HW1⟩
  case round =>
    obtain ⟨j, at_, ov, hj, rfl, rfl, rfl, HS, HOV, HJ⟩ := hrel
    have HSZ : Hid (W.heap.size ≤ wr.heap.size) := Lib.hid HJ.out.size
    have HJL := Lib.hid hj
    have HA0 : Hid (0 ≤ at_) := Lib.hid (by rw [HS.out.1]; exact sumI_nn (fun z hz => HZ.out z (List.mem_of_mem_take hz)))
    by_cases hlt : j < zs.length
    · have HLT := Lib.hid hlt
      have g1 := HX.out j hlt
      obtain ⟨x, hxk⟩ : ∃ x, zs[j]? = some x := ⟨_, List.getElem?_eq_getElem hlt⟩
      have q0 := HJ.out.keep (HC.out j (.int .i64 x) (by rw [List.getElem?_map, hxk]; rfl)) (by simp)
      have HXX := Lib.hid (HZ.out _ (List.mem_of_getElem? hxk))
      have HXK := Lib.hid hxk
      rw [Nat.mul_one] at g1
      have hj1000 : (j : Int) < 10000 := by have := HL.out; omega
      have k8 : IntKind.i64.wrap ((j : Int) + 1) = (j : Int) + 1 := by rw [IntKind.wrap_i64]; omega
      have k7 : IntKind.i64.wrap (4096 - at_) = 4096 - at_ := by have := HS.out; have := HA0.out; rw [IntKind.wrap_i64]; omega
      have k6 : IntKind.i64.wrap (at_ + x) = at_ + x := by have := HS.out; have := HA0.out; have := HXX.out; rw [IntKind.wrap_i64]; omega
      have HTK := Lib.hid (sumI_take hxk)
      clear hxk hj hlt
      by_cases hbig : x > 4096 - at_
      · have hno : ¬ sumI zs ≤ 4096 := by
          have h1 := sumI_le HZ.out (j + 1)
          rw [HTK.out, ← HS.out.1] at h1
          omega
        obtain rfl : 6 = cd := by have := HCD.out; rwa [if_neg hno] at this
        obtain rfl : [] = rr := by have := HRR.out; rwa [if_neg hno] at this
        clear hno
        go_wp2_with fail
        go_ret2
        exact ⟨_, rfl, World.ownsRow_nil _ _ _ _, HJ.out⟩
      · have HBG : Hid (at_ + x ≤ 4096) := Lib.hid (by omega)
        have HLX : Hid ((cutL 0 (zs.take j)).length ≤ 10000) := Lib.hid (by have := HL.out; rw [cutL_length, List.length_take]; omega)
        obtain ⟨rj, hrj⟩ : ∃ rj, cutL 0 (zs.take j) = rj := ⟨_, rfl⟩
        have HRJ := Lib.hid hrj
        rw [hrj] at HOV HLX
        clear hrj
        obtain ⟨xa, xc, hxa, -⟩ := reads_slice (Reads.of_own HOV.out (by decide))
        subst hxa
        have hbig2 : ¬ 4096 - at_ < x := by omega
        go_wp2_with ((with_reducible show wpList _ _ _ (⟨some 28, _, _, _, _, _⟩ :: _) _ _); refine wpList_append_any (o := ⟨some 28, _, _, _, _, _⟩) _ rfl (.tmp 23) (.tmp 27) 51 rfl W.heap.size 58 i0 (.agg #[.int .i64 0, .int .i64 0]) 2 16 Try.underlying51 HI0.out.1 HI0.out.2.1 HI0.out.2.2.1 HI0.out.2.2.2 rfl (by decide) (.slice xa rj.length xc) _ _ rfl (mem.own_chg HOV.out ((Chg.refl [] _).alloc _) (by simp)) _ 1 _ rfl (reads_reg wr at_ x) (by intro u hu; simp [rcells] at hu; rcases hu with rfl | rfl <;> rfl) (by have := HLX.out; unfold maxLen; omega) (by have := HLX.out; omega) (Nat.le_trans HSZ.out ((Chg.refl [] _).alloc _).size) ?_; intro v2 w2 hown2 hg2; have HO2 := Lib.hid (OwnR.add hown2); have HC3 : Hid (Chg [] W w2) := Lib.hid ((HJ.out.alloc _).grown hg2 (fun y hy => .inr (ownGe HOV.out y hy))); clear hown2 hg2)
        have hltj := HLT.out
        go_roundw
        case rel => exact ⟨j + 1, at_ + x, v2, by omega, by go_num, rfl, rfl, Lib.hid ⟨by rw [HTK.out, HS.out.1], HBG.out⟩, Lib.hid (by rw [cutL_take HXK.out, ← HS.out.1, HRJ.out]; exact HO2.out), HC3⟩
        case measure => simp [intOf]; omega
    · obtain rfl : zs.length = j := by omega
      clear hlt hj
      have hyes : sumI zs ≤ 4096 := by have := HS.out; rw [List.take_length] at this; omega
      obtain rfl : 0 = cd := by have := HCD.out; rwa [if_pos hyes] at this
      obtain rfl : cutL 0 zs = rr := by have := HRR.out; rwa [if_pos hyes] at this
      clear hyes
      go_wp2_with fail
      go_ret2
      exact ⟨_, rfl, by have := HOV.out; rwa [List.take_length] at this, HJ.out⟩
theorem clone_regs (v : Value) (rs : List (Int × Int)) (w : World) (hr : Reads w 2 v rs.length (rs.flatMap rcells)) (hz : rs.length ≤ 10000) :
    Calls Try.prog 52 #[v] w fun e w' => ∃ v', e = .returned v' ∧ OwnR w' w.heap.size v' rs ∧ Chg [] w w' := by
  obtain ⟨a, c, rfl, _⟩ := reads_slice hr
  obtain ⟨i0, hi, hz0, hz1, hz2⟩ := info_parts infoReg
  cases a with
  | none =>
    have hnil := fun w => Lib.run_eql_slice_nil (P := Try.prog) w 51 58 none 0 0 0 0 Try.underlying51
    have h0 : rs = [] ∧ c = 0 := by
      obtain ⟨_, _, ⟨h0, a, c', he, ha, _⟩ | ⟨_, b, off, c', he, _⟩⟩ := hr
      · simp only [Value.slice.injEq] at he
        exact ⟨List.eq_nil_of_length_eq_zero h0, by rw [he.2.2]; exact ha he.1.symm⟩
      · simp at he
    obtain ⟨rfl, rfl⟩ := h0
    simp only [List.length_nil]
    clear hz hr hi hz0 hz1 hz2
    go_enter Try.func52, Try.ntmps52
    go_wp2
    go_ret
    exact ⟨_, rfl, World.ownsRow_nil _ _ _ _, Chg.refl _ _⟩
  | some x =>
    have hnil := fun w => Lib.run_eql_slice_nil (P := Try.prog) w 51 58 (some x) rs.length c 0 0 Try.underlying51
    go_enter Try.func52, Try.ntmps52
    go_wp2_with (at_builtin; refine wpList_append_any _ rfl _ _ 51 rfl w.heap.size 58 i0 (.agg #[.int .i64 0, .int .i64 0]) 2 16 Try.underlying51 hi hz0 hz1 hz2 rfl (by decide) (.slice (some ⟨w.heap.size, 0, none⟩) 0 0) 0 [] rfl (World.ownsRow_lit w #[] 0 (Nat.le_refl _) (Nat.zero_le _) rfl) (.slice (some x) rs.length c) rs.length _ rfl (hr.alloc _) (rcells_one rs) (by have := hr.le; omega) (by omega) (by simp) ?_; intro v2 w2 hown2 hg2; simp only [Nat.zero_add, List.nil_append] at hown2; have hc2 : Chg [] w w2 := ((Chg.refl _ _).alloc _).grown hg2 (by simp [Value.ownBlock]))
    go_ret
    exact ⟨_, rfl, hown2, hc2⟩
end Go.Proofs.Ytjplamoofkcojaa.lay
