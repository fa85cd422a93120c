/- Package seq: what must come. -/
import Derived.Test.YtbbpnpokccfhjaaSeqB
import Derived.Test.YtbbpnpokccfhjaaSeqA
import Derived.Test.YtbbpnpokccfhjaaGen
import Derived.Deep.Cut
namespace Go.Proofs.Ytbbpnpokccfhjaa.seq
open Go Go.RowKit Go.Proofs.Ytbbpnpokccfhjaa.kit Go.Proofs.Ytbbpnpokccfhjaa.mem Go.Proofs.Ytbbpnpokccfhjaa.rop Go.Proofs.Ytbbpnpokccfhjaa.core Go.Proofs.Ytbbpnpokccfhjaa.obj
set_option linter.unusedVariables false
set_option linter.unusedSimpArgs false
set_option maxRecDepth 20000

theorem awake_over (mb : Nat) (W : World) (k : Nat) (hk : k ≤ 4) : (K.run (.pointer (some ⟨mb, 0, none⟩)) k (({ k := 3, w := 1, s := 0, c := 2, st := 4294967294, ia := (some ⟨W.heap.size, 0, none⟩), il := 1, ic := 1, wr := 0, ra := (some ⟨W.heap.size + 1, 0, none⟩), rl := 1, rc := 1, op := 2, reader := 0, phase := 0, i := 0, tries := 0, a := 0, b := 0, used := 0, m := .pointer none, base := 0, size := ((1 + 1 : Nat) : Int), code := 0, steps := 0, over := false } : Core), [7], (layL 4294967294 [5]))).1.over = decide (k = 4) := by
  rcases (by omega : k = 0 ∨ k = 1 ∨ k = 2 ∨ k = 3 ∨ k = 4) with rfl | rfl | rfl | rfl | rfl <;> rfl
theorem awake_last (mb : Nat) (W : World) : (K.run (.pointer (some ⟨mb, 0, none⟩)) 4 (({ k := 3, w := 1, s := 0, c := 2, st := 4294967294, ia := (some ⟨W.heap.size, 0, none⟩), il := 1, ic := 1, wr := 0, ra := (some ⟨W.heap.size + 1, 0, none⟩), rl := 1, rc := 1, op := 2, reader := 0, phase := 0, i := 0, tries := 0, a := 0, b := 0, used := 0, m := .pointer none, base := 0, size := ((1 + 1 : Nat) : Int), code := 0, steps := 0, over := false } : Core), [7], (layL 4294967294 [5]))).2.2 = [0, 7] := rfl
set_option maxHeartbeats 8000000 in
theorem awake_any (W : World) : Calls Try.prog 33 #[] W fun e W' => e = .returned (.bool true) ∧ Chg [] W W' := by
  have OW : ObjW 3 1 0 2 4294967294 1 1 := by constructor <;> decide
  have HSZ := Lib.hid (fun V => Size_yes 3 1 0 2 4294967294 (some ⟨W.heap.size, 0, none⟩) 1 1 0 (some ⟨W.heap.size + 1, 0, none⟩) 1 1 1 rfl OW rfl V)
  have HOW := Lib.hid OW
  clear OW
  go_enter Try.func33, Try.ntmps33
  go_upto_region 2 with fail
  refine code_gen (R := fun V => Hid (Blk V W.heap.size #[.int .u32 5] 22) ∧ Hid (Blk V (W.heap.size + 1 + 1) #[.int .i64 3, .int .i64 1, .int .i64 0, .int .i64 2, .int .u32 4294967294, .slice (some ⟨W.heap.size, 0, none⟩) 1 1, .int .i64 0, .slice (some ⟨W.heap.size + 1, 0, none⟩) 1 1] 26) ∧ Hid (Chg [] W V)) ⟨Lib.hid ((Blk.new W _ _).keep (((Chg.refl [] _).alloc _).alloc _) (by simp)), Lib.hid (blk_new2 W _ _ _ _), Lib.hid ((((Chg.refl [] W).alloc _).alloc _).alloc _)⟩ ?_
  rintro W1 ⟨HI1, HO1, HC1⟩
  have e0 : W1.cell? ⟨W.heap.size + 1 + 1, 0, none⟩ = some (.int .i64 3) := HO1.out.cell rfl
  have e1 : W1.cell? ⟨W.heap.size + 1 + 1, 1, none⟩ = some (.int .i64 1) := HO1.out.cell rfl
  have e2 : W1.cell? ⟨W.heap.size + 1 + 1, 2, none⟩ = some (.int .i64 0) := HO1.out.cell rfl
  have e3 : W1.cell? ⟨W.heap.size + 1 + 1, 3, none⟩ = some (.int .i64 2) := HO1.out.cell rfl
  have e4 : W1.cell? ⟨W.heap.size + 1 + 1, 4, none⟩ = some (.int .u32 4294967294) := HO1.out.cell rfl
  have e5 : W1.cell? ⟨W.heap.size + 1 + 1, 5, none⟩ = some (.slice (some ⟨W.heap.size, 0, none⟩) 1 1) := HO1.out.cell rfl
  have e6 : W1.cell? ⟨W.heap.size + 1 + 1, 6, none⟩ = some (.int .i64 0) := HO1.out.cell rfl
  have e7 : W1.cell? ⟨W.heap.size + 1 + 1, 7, none⟩ = some (.slice (some ⟨W.heap.size + 1, 0, none⟩) 1 1) := HO1.out.cell rfl
  have HE := Lib.hid (fun (V : World) (h : Chg [] W1 V) => HO1.out.keep h (by simp))
  go_wp2_with (first
    | (go_at_call 38; refine (Begin_yes 3 1 0 2 4294967294 _ 1 1 0 _ 1 1 0 2 0 ((1 + 1 : Nat) : Int) _ [7] _ (ReadsW.lit (xs := [7]) (Blk.new W1 _ _) (by decide) (by decide) (by decide)) (by decide) HSZ.out (by decide)).mono ?_; rintro e w2 ⟨bx, v, rfl, hb2, ho2, hv2, hx2, hc2⟩; have HB2 := Lib.hid hb2; have HO2 := Lib.hid ho2; have HV2 := Lib.hid hv2; have HX2 := Lib.hid hx2; have HC2 := Lib.hid (((Chg.refl [] W1).alloc _).trans hc2); clear hb2 ho2 hv2 hx2 hc2 e0 e1 e2 e3 e4 e5 e6 e7; have e0 : w2.cell? ⟨W.heap.size + 1 + 1, 0, none⟩ = some (.int .i64 3) := (HE.out _ HC2.out).cell rfl; have e1 : w2.cell? ⟨W.heap.size + 1 + 1, 1, none⟩ = some (.int .i64 1) := (HE.out _ HC2.out).cell rfl; have e2 : w2.cell? ⟨W.heap.size + 1 + 1, 2, none⟩ = some (.int .i64 0) := (HE.out _ HC2.out).cell rfl; have e3 : w2.cell? ⟨W.heap.size + 1 + 1, 3, none⟩ = some (.int .i64 2) := (HE.out _ HC2.out).cell rfl; have e4 : w2.cell? ⟨W.heap.size + 1 + 1, 4, none⟩ = some (.int .u32 4294967294) := (HE.out _ HC2.out).cell rfl; have e5 : w2.cell? ⟨W.heap.size + 1 + 1, 5, none⟩ = some (.slice (some ⟨W.heap.size, 0, none⟩) 1 1) := (HE.out _ HC2.out).cell rfl; have e6 : w2.cell? ⟨W.heap.size + 1 + 1, 6, none⟩ = some (.int .i64 0) := (HE.out _ HC2.out).cell rfl; have e7 : w2.cell? ⟨W.heap.size + 1 + 1, 7, none⟩ = some (.slice (some ⟨W.heap.size + 1, 0, none⟩) 1 1) := (HE.out _ HC2.out).cell rfl)
    | (go_at_call 36; refine (Lay_yes 3 1 0 2 4294967294 _ 1 1 0 _ 1 1 1 rfl [5] HOW.out rfl _ (ReadsW.lit (xs := [5]) (HI1.out.keep HC2.out (by simp)) (by decide) (by decide) (by decide))).mono ?_; rintro e w3 ⟨v3, rfl, ho3, hc3⟩; obtain ⟨a3, c3, rfl, _⟩ := reads_slice (Reads.of_own ho3 (by decide)); have HO3 := Lib.hid ho3; have HC3 := Lib.hid hc3; clear ho3 hc3 e0 e1 e2 e3 e4 e5 e6 e7)
    | (go_at_call 27; refine (Memory_ok _ (layL 4294967294 [5]) _ (OwnW.reads HO3.out (by decide)) (by decide)).mono ?_; rintro e w4 ⟨mb, sv, rfl, hm4, hc4, hb4, hs4⟩; have HP : Hid (Pair 83 bx mb sv w4 ({ k := 3, w := 1, s := 0, c := 2, st := 4294967294, ia := (some ⟨W.heap.size, 0, none⟩), il := 1, ic := 1, wr := 0, ra := (some ⟨W.heap.size + 1, 0, none⟩), rl := 1, rc := 1, op := 2, reader := 0, phase := 0, i := 0, tries := 0, a := 0, b := 0, used := 0, m := .pointer none, base := 0, size := ((1 + 1 : Nat) : Int), code := 0, steps := 0, over := false } : Core) v [7] (layL 4294967294 [5]) 0) := Lib.hid (Pair.make HB2.out HO2.out HV2.out (by decide) (by decide) (HC3.out.trans hc4) hm4 (Nat.le_trans HC3.out.size hb4) (fun y hy => Nat.le_trans HC3.out.size (hs4 y hy))); have HC4 := Lib.hid ((HC1.out.trans HC2.out).trans (HC3.out.trans hc4)); have HF : Hid (W.heap.size ≤ bx ∧ W.heap.size ≤ mb ∧ (∀ y, sv.ownBlock = some y → W.heap.size ≤ y) ∧ (∀ y, v.ownBlock = some y → W.heap.size ≤ y)) := Lib.hid (four.awake_fresh HC1.out HC2.out HC3.out HX2.out hb4 hs4 HO2.out (by simp)); clear hm4 hc4 hb4 hs4))
  obtain ⟨q0, hq⟩ : ∃ q0 : Q, (({ k := 3, w := 1, s := 0, c := 2, st := 4294967294, ia := (some ⟨W.heap.size, 0, none⟩), il := 1, ic := 1, wr := 0, ra := (some ⟨W.heap.size + 1, 0, none⟩), rl := 1, rc := 1, op := 2, reader := 0, phase := 0, i := 0, tries := 0, a := 0, b := 0, used := 0, m := .pointer none, base := 0, size := ((1 + 1 : Nat) : Int), code := 0, steps := 0, over := false } : Core), [7], (layL 4294967294 [5])) = q0 := ⟨_, rfl⟩
  have HOV : Hid (∀ k, k ≤ 4 → (K.run (.pointer (some ⟨mb, 0, none⟩)) k q0).1.over = decide (k = 4)) := Lib.hid (by rw [← hq]; exact awake_over mb W)
  have HLS : Hid ((K.run (.pointer (some ⟨mb, 0, none⟩)) 4 q0).2.2 = [0, 7]) := Lib.hid (by rw [← hq]; exact awake_last mb W)
  have HQ0 : Hid (0 ≤ q0.1.base ∧ 0 ≤ q0.1.size ∧ q0.1.base + q0.1.size ≤ q0.2.2.length ∧ q0.1.steps = 0) := Lib.hid (by rw [← hq]; exact ⟨show (0 : Int) ≤ 0 by decide, show (0 : Int) ≤ 2 by decide, show (0 : Int) + 2 ≤ 2 by decide, rfl⟩)
  have HST : Hid (K.At 83 bx mb sv w4 v q0 0 w4 0) := Lib.hid (by rw [← hq]; exact Kind.At.start (St.start HP.out) ⟨show (1 : Int) ≤ 1 ∧ (1 : Int) ≤ 8 by decide, show (0 : Int) ≤ 0 ∧ (0 : Int) ≤ 4294967295 by decide, show (1 : Int) ≤ 2 ∧ (2 : Int) ≤ 16 by decide, ⟨show (0 : Int) ≤ 0 by decide, fun _ => show (0 : Int) < 2 by decide⟩, show (0 : Int) ≤ 0 by decide, rfl, fun _ => show (0 : Int) ≤ 0 ∧ (0 : Int) < 1 by decide, .inl ⟨rfl, show (0 : Int) ≤ 0 ∧ (0 : Int) ≤ 3 by decide, fun _ => rfl⟩⟩)
  clear hq
  go_loopw [23] (fun _ wr => ∃ k : Nat, k ≤ 4 ∧ Hid (K.At 83 bx mb sv w4 v q0 0 wr k)) (fun _ wr => 4 - stepsOf wr bx)
  case atStart => exact ⟨0, by omega, HST⟩
  case round =>
    obtain ⟨k, hk, HA⟩ := hrel
    have HK := Lib.hid hk
    by_cases h5 : k = 4
    · subst h5
      have HOP : Hid (opens (K.run (.pointer (some ⟨mb, 0, none⟩)) 4 q0).1 (K.run (.pointer (some ⟨mb, 0, none⟩)) 4 q0).2.2.length = false) := Lib.hid (by rw [HA.out.opens HQ0.out.1 HQ0.out.2.1 HQ0.out.2.2.1, HOV.out _ (by omega)]; rfl)
      have HSS : Hid ((K.run (.pointer (some ⟨mb, 0, none⟩)) 4 q0).1.steps = 4) := Lib.hid (by rw [HA.out.steps, HQ0.out.2.2.2]; rfl)
      clear hk
      go_wp2_with (first
        | (go_at_call 39; refine (Step_no HOP.out HA.out.st).mono ?_; rintro e w5 ⟨rfl, hc5⟩; have HA5 := Lib.hid (HA.out.keep hc5); have HC5 := Lib.hid hc5; clear hc5)
        | (go_at_call 41; refine (Steps_any HA5.out.st).mono ?_; rintro e w6 ⟨rfl, rfl⟩; rw [HSS.out])
        | (go_at_call 47; refine (Words_ok mb sv _ _ _ HA5.out.st.memory).mono ?_; rintro e w7 ⟨v7, rfl, ho7, hc7⟩; rw [HLS.out] at ho7; obtain ⟨a7, c7, rfl, _⟩ := reads_slice (Reads.of_own ho7 (by decide)); have HO7 := Lib.hid ho7; have HC7 := Lib.hid hc7; clear ho7 hc7)
        | (go_at_call 21; refine (Words_any _ _ [0, 7] [0, 7] _ ((OwnW.reads HO7.out (by decide)).chg ((Chg.refl [] _).alloc _)) (ReadsW.lit (xs := [0, 7]) (Blk.new _ _ _) (by decide) (by decide) (by decide)) (by decide) (by decide)).mono ?_; rintro e w8 ⟨rfl, hq8⟩; have HQ8 := Lib.hid hq8; clear hq8; rw [show wordsB [0, 7] [0, 7] = true from rfl]))
      go_ret
      refine ⟨rfl, ?_⟩
      have hst := HA5.out.st
      obtain ⟨v9, hp9, he9⟩ := hst
      have hF := HF.out
      refine ((HC4.out.into he9.chg (fun y hy => ?_)).trans (HC7.out.alloc _)).quiet HQ8.out
      simp only [List.mem_cons, List.mem_append, Option.mem_toList, Option.mem_def] at hy
      right
      rcases hy with rfl | rfl | hy | hy
      · exact hF.1
      · exact hF.2.1
      · exact hF.2.2.1 y hy
      · exact hF.2.2.2 y hy
    · have hov : (K.run (.pointer (some ⟨mb, 0, none⟩)) k q0).1.over = false := by rw [HOV.out _ hk]; simp [h5]
      have HOV2 := Lib.hid hov
      have HOP : Hid (opens (K.run (.pointer (some ⟨mb, 0, none⟩)) k q0).1 (K.run (.pointer (some ⟨mb, 0, none⟩)) k q0).2.2.length = true) := Lib.hid (by rw [HA.out.opens HQ0.out.1 HQ0.out.2.1 HQ0.out.2.2.1, hov]; rfl)
      have HSS : Hid ((K.run (.pointer (some ⟨mb, 0, none⟩)) k q0).1.steps = k) := Lib.hid (by rw [HA.out.steps, HQ0.out.2.2.2]; omega)
      have HLT : Hid (k < 4) := Lib.hid (by omega)
      clear hk h5 hov
      go_wp2_with (go_at_call 39; refine (Step_yes HA.out.shape (by rw [HSS.out]; have := HLT.out; omega) HOP.out (by have := HLT.out; omega) HA.out.st).mono ?_; rintro e w5 ⟨rfl, hx⟩; have HX := Lib.hid (HA.out.next HOV2.out hx); clear hx)
      have hlt := HLT.out
      have m1 := HA.out.made HQ0.out.2.2.2
      have m2 := HX.out.made HQ0.out.2.2.2
      go_roundw
      case rel => exact ⟨k + 1, by omega, HX⟩
      case measure => rw [m1, m2]; omega
end Go.Proofs.Ytbbpnpokccfhjaa.seq
