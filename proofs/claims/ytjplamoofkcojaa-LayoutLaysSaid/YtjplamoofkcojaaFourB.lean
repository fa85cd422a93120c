/- Parts joined: Four4, Four5, Four6. -/
import Derived.Test.YtjplamoofkcojaaGen
import Derived.Test.YtjplamoofkcojaaCoreB
import Derived.Test.YtjplamoofkcojaaObjA
import Derived.Test.YtjplamoofkcojaaPlans
/- Package four: whether it is over, its steps, its answer, its clone. -/
namespace Go.Proofs.Ytjplamoofkcojaa.four
open Go Go.RowKit Go.Proofs.Ytjplamoofkcojaa.kit Go.Proofs.Ytjplamoofkcojaa.mem Go.Proofs.Ytjplamoofkcojaa.rop Go.Proofs.Ytjplamoofkcojaa.core
set_option linter.unusedVariables false
set_option linter.unusedSimpArgs false
set_option maxRecDepth 20000

end Go.Proofs.Ytjplamoofkcojaa.four

/- Package four: how many words there are, and which. -/
namespace Go.Proofs.Ytjplamoofkcojaa.four
open Go Go.RowKit Go.Proofs.Ytjplamoofkcojaa.kit Go.Proofs.Ytjplamoofkcojaa.mem Go.Proofs.Ytjplamoofkcojaa.rop Go.Proofs.Ytjplamoofkcojaa.core Go.Proofs.Ytjplamoofkcojaa.obj
set_option linter.unusedVariables false
set_option linter.unusedSimpArgs false
set_option maxRecDepth 20000

theorem size_at (k w s c st : Int) (ia : Option Addr) (il ic : Nat) (wr : Int) (ra : Option Addr) (rl rc : Nat) (wN : Nat) (hw : w = (wN : Int)) (hwN : wN ≤ 8) (W : World) :
    Calls Try.prog 111 #[.agg #[.int .i64 k, .int .i64 w, .int .i64 s, .int .i64 c, .int .u32 st, .slice ia il ic, .int .i64 wr, .slice ra rl rc]] W fun e W' => e = .returned (.int .i64 ((4 + 4 * wN : Nat) : Int)) ∧ Chg [] W W' := by
  have k1 : IntKind.i64.wrap (4 * (wN : Int)) = 4 * (wN : Int) := by rw [IntKind.wrap_i64]; omega
  have k2 : IntKind.i64.wrap (4 + 4 * (wN : Int)) = 4 + 4 * (wN : Int) := by rw [IntKind.wrap_i64]; omega
  subst hw
  clear hwN
  go_enter Try.func111, Try.ntmps111
  go_wp2
  go_ret
  exact ⟨congrArg (fun z => Ending.returned (Value.int .i64 z)) (by omega), (Chg.refl _ _).alloc _⟩
theorem Size_yes (k w s c st : Int) (ia : Option Addr) (il ic : Nat) (wr : Int) (ra : Option Addr) (rl rc : Nat) (wN : Nat) (hw : w = (wN : Int)) (h : ObjW k w s c st il rl) (hr : (decide (k = 1) && rightB k w s c st il rl) = true) (W : World) :
    Calls Try.prog 96 #[.agg #[.int .i64 k, .int .i64 w, .int .i64 s, .int .i64 c, .int .u32 st, .slice ia il ic, .int .i64 wr, .slice ra rl rc]] W fun e W' => e = .returned (.int .i64 ((4 + 4 * wN : Nat) : Int)) ∧ Chg [] W W' := by
  have hb := rightB_bd (by simp only [Bool.and_eq_true] at hr; exact hr.2)
  have HW := Lib.hid (show wN ≤ 8 by omega)
  have HE := Lib.hid hw
  have HO := Lib.hid h
  have HR := Lib.hid hr
  clear h hr hb hw
  go_enter Try.func96, Try.ntmps96
  go_wp2_with (first | (go_at_call 89; refine (fourRight_any k w s c st ia il ic wr ra rl rc HO.out _).mono ?_; rintro e w1 ⟨rfl, hc⟩; rw [HR.out]; have HC := Lib.hid (((Chg.refl [] W).alloc _).trans hc); have HB := Lib.hid ((Blk.new W #[.int .i64 k, .int .i64 w, .int .i64 s, .int .i64 c, .int .u32 st, .slice ia il ic, .int .i64 wr, .slice ra rl rc] 26).keep hc (by simp)); clear hc; have e0 : w1.cell? ⟨W.heap.size, 0, none⟩ = some (.int .i64 k) := HB.out.cell rfl; have e1 : w1.cell? ⟨W.heap.size, 1, none⟩ = some (.int .i64 w) := HB.out.cell rfl; have e2 : w1.cell? ⟨W.heap.size, 2, none⟩ = some (.int .i64 s) := HB.out.cell rfl; have e3 : w1.cell? ⟨W.heap.size, 3, none⟩ = some (.int .i64 c) := HB.out.cell rfl; have e4 : w1.cell? ⟨W.heap.size, 4, none⟩ = some (.int .u32 st) := HB.out.cell rfl; have e5 : w1.cell? ⟨W.heap.size, 5, none⟩ = some (.slice ia il ic) := HB.out.cell rfl; have e6 : w1.cell? ⟨W.heap.size, 6, none⟩ = some (.int .i64 wr) := HB.out.cell rfl; have e7 : w1.cell? ⟨W.heap.size, 7, none⟩ = some (.slice ra rl rc) := HB.out.cell rfl) | (go_at_call 111; refine (size_at k w s c st ia il ic wr ra rl rc wN HE.out HW.out _).mono ?_; rintro e w2 ⟨rfl, hc⟩; have HC2 := Lib.hid (HC.out.trans hc); clear hc))
  go_ret
  exact ⟨rfl, HC2.out⟩
theorem Size_no (k w s c st : Int) (ia : Option Addr) (il ic : Nat) (wr : Int) (ra : Option Addr) (rl rc : Nat) (h : ObjW k w s c st il rl) (hr : (decide (k = 1) && rightB k w s c st il rl) = false) (W : World) :
    Calls Try.prog 96 #[.agg #[.int .i64 k, .int .i64 w, .int .i64 s, .int .i64 c, .int .u32 st, .slice ia il ic, .int .i64 wr, .slice ra rl rc]] W fun e W' => e = .returned (.int .i64 0) ∧ Chg [] W W' := by
  have HO := Lib.hid h
  have HR := Lib.hid hr
  clear h hr
  go_enter Try.func96, Try.ntmps96
  go_wp2_with (go_at_call 89; refine (fourRight_any k w s c st ia il ic wr ra rl rc HO.out _).mono ?_; rintro e w1 ⟨rfl, hc⟩; rw [HR.out]; have HC := Lib.hid (((Chg.refl [] W).alloc _).trans hc); clear hc)
  go_ret
  exact ⟨rfl, HC.out⟩
def layL (w : Nat) (ini : List Int) : List Int := List.replicate 4 0 ++ (ini ++ List.replicate (3 * w) 0)
set_option maxHeartbeats 4000000 in
theorem Lay_yes (k w s c st : Int) (ia : Option Addr) (il ic : Nat) (wr : Int) (ra : Option Addr) (rl rc : Nat) (wN : Nat) (hw : w = (wN : Int)) (ini : List Int) (h : ObjW k w s c st il rl) (hr : (decide (k = 1) && rightB k w s c st il rl) = true) (W : World) (hi : ReadsW W (.slice ia il ic) ini) :
    Calls Try.prog 82 #[.agg #[.int .i64 k, .int .i64 w, .int .i64 s, .int .i64 c, .int .u32 st, .slice ia il ic, .int .i64 wr, .slice ra rl rc]] W fun e W' => ∃ v, e = .returned v ∧ OwnW W' W.heap.size v (layL wN ini) ∧ Chg [] W W' := by
  obtain ⟨i0, hi0, hz0, hz1, hz2⟩ := info_parts mem.info32
  have hil : il = ini.length := by obtain ⟨_, _, he, _⟩ := reads_slice hi.1; simp at he; exact he.2.1
  have hb : 1 ≤ w ∧ w ≤ 8 ∧ (il : Int) = w := by
    simp only [Bool.and_eq_true, decide_eq_true_eq] at hr
    have := rightB_bd hr.2
    have h2 := hr.2
    simp only [rightB, decide_eq_true_eq] at h2
    omega
  have HB := Lib.hid (show 1 ≤ wN ∧ wN ≤ 8 ∧ ini.length = wN by omega)
  obtain ⟨N, hN⟩ : ∃ N, 4 + 4 * wN = N := ⟨_, rfl⟩
  have hNb : N ≤ 36 ∧ 4 < N := by omega
  have HN := Lib.hid hN
  have HNB := Lib.hid hNb
  have hmk := run_make_zeros (P := Try.prog) 23 22 i0 (.int .u32 0) 4 Try.underlying23 hi0 hz0 hz1 hz2 rfl N (by omega) (by omega)
  have hsz := fun W => Size_yes k w s c st ia il ic wr ra rl rc wN hw h hr W
  simp only [hN] at hsz
  have HSZ := Lib.hid hsz
  clear hsz
  have hpos : decide ((0 : Int) < (N : Int)) = true := by simp; omega
  have hpos2 : decide (0 < N) = true := by simp; omega
  have HI := Lib.hid hi
  clear h hr hb hil hN hNb hi hi0 hz0 hz1 hz2 hw
  go_enter Try.func82, Try.ntmps82
  go_wp2_with (go_at_call 96; refine (HSZ.out _).mono ?_; rintro e w1 ⟨rfl, hc⟩; have HC := Lib.hid (((Chg.refl [] W).alloc _).trans hc); have HB1 := Lib.hid ((Blk.new W #[.int .i64 k, .int .i64 w, .int .i64 s, .int .i64 c, .int .u32 st, .slice ia il ic, .int .i64 wr, .slice ra rl rc] 26).keep hc (by simp)); clear hc)
  refine code_gen (R := fun V => Hid (Blk V W.heap.size #[.int .i64 k, .int .i64 w, .int .i64 s, .int .i64 c, .int .u32 st, .slice ia il ic, .int .i64 wr, .slice ra rl rc] 26) ∧ Hid (Blk V w1.heap.size (zeros (.int .u32 0) N) 22) ∧ Hid (Chg [] W V)) ⟨Lib.hid (HB1.out.alloc _), Lib.hid (Blk.new _ _ _), Lib.hid (HC.out.alloc _)⟩ ?_
  rintro W1 ⟨HO1, HZ1, HC1⟩
  have HG := Lib.hid HC.out.size
  have hne : W.heap.size ≠ w1.heap.size := by have := HB1.out.lt; omega
  generalize w1.heap.size = g at *
  have hN4 : (4 : Int) ≤ (N : Int) := by have := HNB.out; omega
  have hN5 : (N = 4) = False := by simp; have := HNB.out; omega
  have HNE := Lib.hid hne
  have HSZ32 : Hid ((Try.prog.info? 22).map (·.size) = some 1) := Lib.hid sz32
  have eS0 : W1.cell? ⟨W.heap.size, 5, none⟩ = some (.slice ia il ic) := HO1.out.cell rfl
  have KEEP := Lib.hid (fun (V : World) (h : Chg [g] W1 V) => (⟨h.keep eS0 (by simpa using HNE.out), Lib.hid h⟩ : (fun V : World => V.cell? ⟨W.heap.size, 5, none⟩ = some (.slice ia il ic) ∧ Hid (Chg [g] W1 V)) V))
  clear eS0
  clear hmk hpos hpos2 hne
  have hHeld : (fun V : World => V.cell? ⟨W.heap.size, 5, none⟩ = some (.slice ia il ic) ∧ Hid (Chg [g] W1 V)) W1.drew := KEEP.out _ (Chg.refl _ _).drew
  refine wp_region_plan (fun V : World => V.cell? ⟨W.heap.size, 5, none⟩ = some (.slice ia il ic) ∧ Hid (Chg [g] W1 V)) [(0, true, some 10), (1, true, some 11), (2, true, some 12), (3, true, some 13), (4, false, some 14)] (by kernel_rfl) (by kernel_rfl) (by kernel_rfl) (by kernel_rfl) (fun d c a v w h => by cases d <;> exact h) hHeld ?_
  repeat (refine planWp_read (v := ?_) rfl rfl ?_ ?_ ?_; rotate_left; (focus rfl); (focus (intro u hSw; (try dsimp only at hSw); go_simp; (try with_reducible rfl))); (try simp only [Act.put, List.setIfInBounds_toArray, List.set_cons_zero, List.set_cons_succ]))
  refine planWp_do rfl rfl ?_ (fun K hK => ?_)
  · rfl
  have hmin : Nat.min ini.length (N - 4) = ini.length := Nat.min_eq_left (by have := HB.out; have := HN.out; omega)
  have hil : il = ini.length := by obtain ⟨_, _, he, _⟩ := reads_slice HI.out.1; simp at he; exact he.2.1
  refine wp_copy_any (.tmp 11) (.tmp 13) 23 23 rfl 22 Try.underlying23 HSZ32.out (some ⟨g, 4, none⟩) (N - 4) (N - 4) rfl (.slice ia il ic) rfl ini.length (ini.map (Value.int .u32)) (HI.out.1.fresh HC1.out.drew) (by intro v hv; simp at hv; obtain ⟨_, _, rfl⟩ := hv; rfl) g 4 (zeros (.int .u32 0) N) 22 HZ1.out.drew (fun hp => rfl) (by rw [hmin, zeros_size]; have := HB.out; have := HN.out; omega) ?_
  intro w5 hb5 hc5
  rw [hmin]
  refine hK.out _ _ (KEEP.out _ ((Chg.refl _ _).drew.trans hc5)) (fun hHeld2 => ?_)
  clear hK K hHeld hHeld2 KEEP
  try simp only [Act.put, List.setIfInBounds_toArray, List.set_cons_zero, List.set_cons_succ]
  refine planWp_nil ?_
  rw [hmin] at hb5
  have HB5 := Lib.hid hb5
  have HC5 : Hid (Chg [] W w5) := Lib.hid (HC1.out.drew.into hc5 (fun y hy => by simp at hy; right; have := HG.out; omega))
  clear hb5 hc5 hmin hil hN4 hN5
  go_wp2_with fail
  go_ret
  refine ⟨_, rfl, ?_, HC5.out⟩
  have hB := HB.out; have hn := HN.out; have hnb := HNB.out
  have hlen : (layL wN ini).length = N := by simp [layL]; omega
  unfold OwnW
  rw [hlen]
  refine ⟨by simp [hlen], .inr ⟨g, N, _, rfl, HG.out, HB5.out, Nat.le_refl _, by unfold maxLen; omega, ?_, ?_⟩⟩
  · have := length_splice (zeros (.int .u32 0) N).toList 4 ((ini.map (Value.int .u32)).take ini.length) (by simp [zeros]; omega)
    simp only [List.size_toArray, this, Nat.mul_one]
    simp [zeros]
  · rw [Nat.mul_one, List.toList_toArray, List.take_of_length_le (by rw [length_splice _ _ _ (by simp [zeros]; omega)]; simp [zeros])]
    simp only [splice, zeros, layL, List.take_replicate, List.drop_replicate, List.map_append, List.map_replicate, List.take_of_length_le, List.length_map, Nat.le_refl, List.toList_toArray]
    congr 1
    · congr 1; omega
    · congr 2; omega
theorem Lay_no (k w s c st : Int) (ia : Option Addr) (il ic : Nat) (wr : Int) (ra : Option Addr) (rl rc : Nat) (h : ObjW k w s c st il rl) (hr : (decide (k = 1) && rightB k w s c st il rl) = false) (W : World) :
    Calls Try.prog 82 #[.agg #[.int .i64 k, .int .i64 w, .int .i64 s, .int .i64 c, .int .u32 st, .slice ia il ic, .int .i64 wr, .slice ra rl rc]] W fun e W' => ∃ v, e = .returned v ∧ OwnW W' W.heap.size v [] ∧ Chg [] W W' := by
  obtain ⟨i0, hi0, hz0, hz1, hz2⟩ := info_parts mem.info32
  have hmk0 := run_make_zeros (P := Try.prog) 23 22 i0 (.int .u32 0) 4 Try.underlying23 hi0 hz0 hz1 hz2 rfl 0 (by omega) (by omega)
  have hmk : ∀ u, (Instr.makeSlice 23 (.int .i64 0) (.int .i64 0)).run Try.prog u = .ok (.slice (some ⟨u.heap.size, 0, none⟩) 0 0) (u.alloc (.cells (zeros (.int .u32 0) 0) 22)) := hmk0
  have HSZ := Lib.hid (fun W => Size_no k w s c st ia il ic wr ra rl rc h hr W)
  clear h hr hi0 hz0 hz1 hz2 hmk0
  go_enter Try.func82, Try.ntmps82
  go_wp2_with (go_at_call 96; refine (HSZ.out _).mono ?_; rintro e w1 ⟨rfl, hc⟩; have HC := Lib.hid (((Chg.refl [] W).alloc _).trans hc); clear hc)
  go_ret
  refine ⟨_, rfl, ?_, HC.out.alloc _⟩
  have h1 := World.ownsRow_lit (base := W.heap.size) (e := 22) (size := 1) w1 (zeros (.int .u32 0) 0) 0 HC.out.size (by unfold maxLen; omega) (by rw [zeros_size, Nat.mul_one])
  exact h1
end Go.Proofs.Ytjplamoofkcojaa.four

/- Package four: an operation is begun. -/
namespace Go.Proofs.Ytjplamoofkcojaa.four
open Go Go.RowKit Go.Proofs.Ytjplamoofkcojaa.kit Go.Proofs.Ytjplamoofkcojaa.mem Go.Proofs.Ytjplamoofkcojaa.rop Go.Proofs.Ytjplamoofkcojaa.core Go.Proofs.Ytjplamoofkcojaa.obj
set_option linter.unusedVariables false
set_option linter.unusedSimpArgs false
set_option maxRecDepth 20000

end Go.Proofs.Ytjplamoofkcojaa.four
