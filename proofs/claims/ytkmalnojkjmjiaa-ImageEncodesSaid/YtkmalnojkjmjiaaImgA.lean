/- Images: numbers that have room; bytes and words laid; sums: the walks. -/
import Derived.Test.YtkmalnojkjmjiaaDeep
import Derived.Test.YtkmalnojkjmjiaaImgR
import Derived.Test.YtkmalnojkjmjiaaCodecW6
namespace Go.Proofs.Ytkmalnojkjmjiaa.img
open Go Go.RowKit Go.Proofs.Ytkmalnojkjmjiaa.kit Go.Proofs.Ytkmalnojkjmjiaa.obj Go.Proofs.Ytkmalnojkjmjiaa.mem Go.Proofs.Ytkmalnojkjmjiaa.codec
set_option linter.unusedVariables false
set_option linter.unusedSimpArgs false
set_option maxRecDepth 200000
def idxI (p : Int → Bool) (zs : List Int) : Int := match zs.findIdx? p with | some i => (i : Int) | none => -1
theorem idxI_any (p : Int → Bool) (zs : List Int) : decide (0 ≤ idxI p zs) = zs.any p := by
  unfold idxI
  cases h : zs.findIdx? p with
  | some i =>
    have h1 := List.findIdx?_eq_some_iff_getElem.1 h
    obtain ⟨hi, hp, -⟩ := h1
    have : zs.any p = true := List.any_eq_true.2 ⟨_, List.getElem_mem hi, hp⟩
    simp [this]
  | none =>
    have h1 := List.findIdx?_eq_none_iff.1 h
    have : zs.any p = false := by rw [List.any_eq_false]; intro x hx; simp [h1 x hx]
    simp [this]
theorem idxI_at {p : Int → Bool} {zs : List Int} {j : Nat} {x : Int} (hx : zs[j]? = some x) (hp : p x = true) (hn : ∀ i, i < j → ∀ y, zs[i]? = some y → p y = false) : idxI p zs = (j : Int) := by
  unfold idxI
  have hj := (List.getElem?_eq_some_iff.1 hx)
  have : zs.findIdx? p = some j := by
    rw [List.findIdx?_eq_some_iff_getElem]
    refine ⟨hj.1, by rw [hj.2]; exact hp, fun i hi => ?_⟩
    have := hn i hi _ (List.getElem?_eq_getElem (by have := hj.1; omega))
    simp [this]
  rw [this]
theorem idxI_none {p : Int → Bool} {zs : List Int} (hn : ∀ (i : Nat) y, zs[i]? = some y → p y = false) : idxI p zs = -1 := by
  unfold idxI
  have : zs.findIdx? p = none := by
    rw [List.findIdx?_eq_none_iff]
    intro x hx
    obtain ⟨i, hi⟩ := List.getElem?_of_mem hx
    exact hn i x hi
  rw [this]
theorem oneF_any (n : Int) (W : World) : Calls Try.prog 54 #[.int .i64 n] W fun e W' => e = .returned (.bool (!decide (fit1 n))) ∧ W = W' := by
  by_cases h1 : n < 0
  · have hv : (!decide (fit1 n)) = true := by rw [decide_eq_false (p := fit1 n) (by unfold fit1; omega)]; rfl
    rw [hv]
    go_enter Try.func54, Try.ntmps54
    go_wp2_with fail
    go_ret
    exact ⟨rfl, rfl⟩
  · by_cases h2 : n > 255
    · have hv : (!decide (fit1 n)) = true := by rw [decide_eq_false (p := fit1 n) (by unfold fit1; omega)]; rfl
      have h1' : 0 ≤ n := by omega
      rw [hv]
      go_enter Try.func54, Try.ntmps54
      go_wp2_with fail
      go_ret
      exact ⟨rfl, rfl⟩
    · have hv : (!decide (fit1 n)) = false := by rw [decide_eq_true (p := fit1 n) (by unfold fit1; omega)]; rfl
      have h1' : 0 ≤ n := by omega
      have h2' : n ≤ 255 := by omega
      rw [hv]
      go_enter Try.func54, Try.ntmps54
      go_wp2_with fail
      go_ret
      exact ⟨rfl, rfl⟩
theorem small_any (n : Int) (W : World) : Calls Try.prog 50 #[.int .i64 n] W fun e W' => e = .returned (.bool (decide (fit1 n))) ∧ W = W' := by
  by_cases h1 : 0 ≤ n
  · by_cases h2 : n < 256
    · have hv : decide (fit1 n) = true := decide_eq_true (p := fit1 n) (by unfold fit1; omega)
      rw [hv]
      go_enter Try.func50, Try.ntmps50
      go_wp2_with fail
      go_ret
      exact ⟨rfl, rfl⟩
    · have hv : decide (fit1 n) = false := decide_eq_false (p := fit1 n) (by unfold fit1; omega)
      have h2' : 256 ≤ n := by omega
      rw [hv]
      go_enter Try.func50, Try.ntmps50
      go_wp2_with fail
      go_ret
      exact ⟨rfl, rfl⟩
  · have hv : decide (fit1 n) = false := decide_eq_false (p := fit1 n) (by unfold fit1; omega)
    have h1' : n < 0 := by omega
    rw [hv]
    go_enter Try.func50, Try.ntmps50
    go_wp2_with fail
    go_ret
    exact ⟨rfl, rfl⟩
set_option maxHeartbeats 2000000 in
theorem oneI_any (v : Value) (zs : List Int) (W : World) (hr : ReadsN W v zs) (hl : zs.length ≤ 1000000) :
    Calls Try.prog 57 #[v, .func (.func 54) #[] #[]] W fun e W' => e = .returned (.int .i64 (idxI (fun n => !decide (fit1 n)) zs)) ∧ Chg [] W W' := by
  obtain ⟨bb, off, hix, hcell, hown⟩ := reads_index (P := Try.prog) Try.underlying51 szI hr
  obtain ⟨va, vc, rfl, _⟩ := reads_slice hr
  have HX := Lib.hid hix
  have HC := Lib.hid hcell
  have HL := Lib.hid hl
  obtain ⟨R, hR⟩ : ∃ R, idxI (fun n => !decide (fit1 n)) zs = R := ⟨_, rfl⟩
  rw [hR]
  have HR := Lib.hid hR
  clear hix hcell hown hr hl hR
  go_enter Try.func57, Try.ntmps57
  go_wp2_with fail
  go_loopw [5, 8] (fun _ i wr => ∃ j : Nat, j ≤ zs.length ∧ i = .int .i64 j ∧ Hid (∀ i, i < j → ∀ y, zs[i]? = some y → (!decide (fit1 y)) = false) ∧ Hid (Chg [] W wr)) (fun _ i _ => zs.length - (intOf i).toNat)
  case atStart => exact ⟨0, Nat.zero_le _, rfl, Lib.hid (fun i hi => by omega), Lib.hid (Chg.refl _ _)⟩
  case round =>
    obtain ⟨j, hj, rfl, HN, HJ⟩ := hrel
    by_cases hlt : j < zs.length
    · have HLT := Lib.hid hlt
      have g1 := HX.out j hlt
      obtain ⟨x, hxk⟩ : ∃ x, zs[j]? = some x := ⟨_, List.getElem?_eq_getElem hlt⟩
      have q0 := HJ.out.keep (HC.out j (.int .i64 x) (by rw [List.getElem?_map, hxk]; rfl)) (by simp)
      have HK := Lib.hid hxk
      rw [Nat.mul_one] at g1
      have hjm : (j : Int) ≤ 9223372036854775806 := by have := HL.out; omega
      have k8 : IntKind.i64.wrap ((j : Int) + 1) = (j : Int) + 1 := by rw [IntKind.wrap_i64]; omega
      have HF := Lib.hid (fun V => oneF_any x V)
      obtain ⟨p, hp⟩ : ∃ p, (!decide (fit1 x)) = p := ⟨_, rfl⟩
      rw [hp] at HF
      have HP := Lib.hid hp
      clear hxk hj hlt hp
      cases p
      · go_wp2_with (go_at_call 54; refine (HF.out _).mono ?_; rintro e w1 ⟨rfl, rfl⟩)
        have hltj := HLT.out
        go_roundw
        case rel =>
          refine ⟨j + 1, by omega, by go_num, Lib.hid (fun i hi y hy => ?_), HJ⟩
          by_cases he : i = j
          · subst he
            rw [HK.out] at hy
            cases hy
            exact HP.out
          · exact HN.out i (by omega) y hy
        case measure => simp [intOf]; omega
      · go_wp2_with (go_at_call 54; refine (HF.out _).mono ?_; rintro e w1 ⟨rfl, rfl⟩)
        go_ret
        exact ⟨by rw [← HR.out, idxI_at (p := fun n => !decide (fit1 n)) HK.out HP.out HN.out]; rfl, HJ.out⟩
    · obtain rfl : zs.length = j := by omega
      clear hlt hj
      go_wp2_with fail
      go_ret
      exact ⟨by rw [← HR.out, idxI_none (p := fun n => !decide (fit1 n)) (fun i q hq => HN.out i (List.getElem?_eq_some_iff.1 hq).1 q hq)]; rfl, HJ.out⟩
theorem oneC_any (v : Value) (zs : List Int) (W : World) (hr : ReadsN W v zs) (hl : zs.length ≤ 1000000) :
    Calls Try.prog 53 #[v, .func (.func 54) #[] #[]] W fun e W' => e = .returned (.bool (zs.any (fun n => !decide (fit1 n)))) ∧ Chg [] W W' := by
  have HI := Lib.hid (oneI_any v zs W hr hl)
  have hv := idxI_any (fun n => !decide (fit1 n)) zs
  rw [← hv]
  generalize idxI (fun n => !decide (fit1 n)) zs = R at *
  clear hr hl hv
  go_enter Try.func53, Try.ntmps53
  go_wp2_with (go_at_call 57; refine HI.out.mono ?_; rintro e w1 ⟨rfl, hc⟩; have HC := Lib.hid hc; clear hc)
  go_ret
  exact ⟨rfl, HC.out⟩
/-- have all numbers room -/
theorem one_any (v : Value) (zs : List Int) (W : World) (hr : ReadsN W v zs) (hl : zs.length ≤ 1000000) :
    Calls Try.prog 45 #[v] W fun e W' => e = .returned (.bool (zs.all (fun n => decide (fit1 n)))) ∧ Chg [] W W' := by
  have HI := Lib.hid (oneC_any v zs W hr hl)
  have hv : zs.all (fun n => decide (fit1 n)) = !zs.any (fun n => !decide (fit1 n)) := by simp [List.all_eq_not_any_not]
  rw [hv]
  generalize zs.any (fun n => !decide (fit1 n)) = R at *
  clear hr hl hv
  go_enter Try.func45, Try.ntmps45
  go_wp2_with (go_at_call 53; refine HI.out.mono ?_; rintro e w1 ⟨rfl, hc⟩; have HC := Lib.hid hc; clear hc)
  go_ret
  exact ⟨rfl, HC.out⟩
theorem fourF_any (n : Int) (W : World) : Calls Try.prog 55 #[.int .i64 n] W fun e W' => e = .returned (.bool (!decide (fit4 n))) ∧ W = W' := by
  by_cases h1 : n < 0
  · have hv : (!decide (fit4 n)) = true := by rw [decide_eq_false (p := fit4 n) (by unfold fit4; omega)]; rfl
    rw [hv]
    go_enter Try.func55, Try.ntmps55
    go_wp2_with fail
    go_ret
    exact ⟨rfl, rfl⟩
  · by_cases h2 : n > 4294967295
    · have hv : (!decide (fit4 n)) = true := by rw [decide_eq_false (p := fit4 n) (by unfold fit4; omega)]; rfl
      have h1' : 0 ≤ n := by omega
      rw [hv]
      go_enter Try.func55, Try.ntmps55
      go_wp2_with fail
      go_ret
      exact ⟨rfl, rfl⟩
    · have hv : (!decide (fit4 n)) = false := by rw [decide_eq_true (p := fit4 n) (by unfold fit4; omega)]; rfl
      have h1' : 0 ≤ n := by omega
      have h2' : n ≤ 4294967295 := by omega
      rw [hv]
      go_enter Try.func55, Try.ntmps55
      go_wp2_with fail
      go_ret
      exact ⟨rfl, rfl⟩
theorem large_any (n : Int) (W : World) : Calls Try.prog 51 #[.int .i64 n] W fun e W' => e = .returned (.bool (decide (fit4 n))) ∧ W = W' := by
  by_cases h1 : 0 ≤ n
  · by_cases h2 : n < 4294967296
    · have hv : decide (fit4 n) = true := decide_eq_true (p := fit4 n) (by unfold fit4; omega)
      rw [hv]
      go_enter Try.func51, Try.ntmps51
      go_wp2_with fail
      go_ret
      exact ⟨rfl, rfl⟩
    · have hv : decide (fit4 n) = false := decide_eq_false (p := fit4 n) (by unfold fit4; omega)
      have h2' : 4294967296 ≤ n := by omega
      rw [hv]
      go_enter Try.func51, Try.ntmps51
      go_wp2_with fail
      go_ret
      exact ⟨rfl, rfl⟩
  · have hv : decide (fit4 n) = false := decide_eq_false (p := fit4 n) (by unfold fit4; omega)
    have h1' : n < 0 := by omega
    rw [hv]
    go_enter Try.func51, Try.ntmps51
    go_wp2_with fail
    go_ret
    exact ⟨rfl, rfl⟩
set_option maxHeartbeats 2000000 in
theorem fourI_any (v : Value) (zs : List Int) (W : World) (hr : ReadsN W v zs) (hl : zs.length ≤ 1000000) :
    Calls Try.prog 57 #[v, .func (.func 55) #[] #[]] W fun e W' => e = .returned (.int .i64 (idxI (fun n => !decide (fit4 n)) zs)) ∧ Chg [] W W' := by
  obtain ⟨bb, off, hix, hcell, hown⟩ := reads_index (P := Try.prog) Try.underlying51 szI hr
  obtain ⟨va, vc, rfl, _⟩ := reads_slice hr
  have HX := Lib.hid hix
  have HC := Lib.hid hcell
  have HL := Lib.hid hl
  obtain ⟨R, hR⟩ : ∃ R, idxI (fun n => !decide (fit4 n)) zs = R := ⟨_, rfl⟩
  rw [hR]
  have HR := Lib.hid hR
  clear hix hcell hown hr hl hR
  go_enter Try.func57, Try.ntmps57
  go_wp2_with fail
  go_loopw [5, 8] (fun _ i wr => ∃ j : Nat, j ≤ zs.length ∧ i = .int .i64 j ∧ Hid (∀ i, i < j → ∀ y, zs[i]? = some y → (!decide (fit4 y)) = false) ∧ Hid (Chg [] W wr)) (fun _ i _ => zs.length - (intOf i).toNat)
  case atStart => exact ⟨0, Nat.zero_le _, rfl, Lib.hid (fun i hi => by omega), Lib.hid (Chg.refl _ _)⟩
  case round =>
    obtain ⟨j, hj, rfl, HN, HJ⟩ := hrel
    by_cases hlt : j < zs.length
    · have HLT := Lib.hid hlt
      have g1 := HX.out j hlt
      obtain ⟨x, hxk⟩ : ∃ x, zs[j]? = some x := ⟨_, List.getElem?_eq_getElem hlt⟩
      have q0 := HJ.out.keep (HC.out j (.int .i64 x) (by rw [List.getElem?_map, hxk]; rfl)) (by simp)
      have HK := Lib.hid hxk
      rw [Nat.mul_one] at g1
      have hjm : (j : Int) ≤ 9223372036854775806 := by have := HL.out; omega
      have k8 : IntKind.i64.wrap ((j : Int) + 1) = (j : Int) + 1 := by rw [IntKind.wrap_i64]; omega
      have HF := Lib.hid (fun V => fourF_any x V)
      obtain ⟨p, hp⟩ : ∃ p, (!decide (fit4 x)) = p := ⟨_, rfl⟩
      rw [hp] at HF
      have HP := Lib.hid hp
      clear hxk hj hlt hp
      cases p
      · go_wp2_with (go_at_call 55; refine (HF.out _).mono ?_; rintro e w1 ⟨rfl, rfl⟩)
        have hltj := HLT.out
        go_roundw
        case rel =>
          refine ⟨j + 1, by omega, by go_num, Lib.hid (fun i hi y hy => ?_), HJ⟩
          by_cases he : i = j
          · subst he
            rw [HK.out] at hy
            cases hy
            exact HP.out
          · exact HN.out i (by omega) y hy
        case measure => simp [intOf]; omega
      · go_wp2_with (go_at_call 55; refine (HF.out _).mono ?_; rintro e w1 ⟨rfl, rfl⟩)
        go_ret
        exact ⟨by rw [← HR.out, idxI_at (p := fun n => !decide (fit4 n)) HK.out HP.out HN.out]; rfl, HJ.out⟩
    · obtain rfl : zs.length = j := by omega
      clear hlt hj
      go_wp2_with fail
      go_ret
      exact ⟨by rw [← HR.out, idxI_none (p := fun n => !decide (fit4 n)) (fun i q hq => HN.out i (List.getElem?_eq_some_iff.1 hq).1 q hq)]; rfl, HJ.out⟩
theorem fourC_any (v : Value) (zs : List Int) (W : World) (hr : ReadsN W v zs) (hl : zs.length ≤ 1000000) :
    Calls Try.prog 53 #[v, .func (.func 55) #[] #[]] W fun e W' => e = .returned (.bool (zs.any (fun n => !decide (fit4 n)))) ∧ Chg [] W W' := by
  have HI := Lib.hid (fourI_any v zs W hr hl)
  have hv := idxI_any (fun n => !decide (fit4 n)) zs
  rw [← hv]
  generalize idxI (fun n => !decide (fit4 n)) zs = R at *
  clear hr hl hv
  go_enter Try.func53, Try.ntmps53
  go_wp2_with (go_at_call 57; refine HI.out.mono ?_; rintro e w1 ⟨rfl, hc⟩; have HC := Lib.hid hc; clear hc)
  go_ret
  exact ⟨rfl, HC.out⟩
/-- have all numbers room -/
theorem four_any (v : Value) (zs : List Int) (W : World) (hr : ReadsN W v zs) (hl : zs.length ≤ 1000000) :
    Calls Try.prog 46 #[v] W fun e W' => e = .returned (.bool (zs.all (fun n => decide (fit4 n)))) ∧ Chg [] W W' := by
  have HI := Lib.hid (fourC_any v zs W hr hl)
  have hv : zs.all (fun n => decide (fit4 n)) = !zs.any (fun n => !decide (fit4 n)) := by simp [List.all_eq_not_any_not]
  rw [hv]
  generalize zs.any (fun n => !decide (fit4 n)) = R at *
  clear hr hl hv
  go_enter Try.func46, Try.ntmps46
  go_wp2_with (go_at_call 53; refine HI.out.mono ?_; rintro e w1 ⟨rfl, hc⟩; have HC := Lib.hid hc; clear hc)
  go_ret
  exact ⟨rfl, HC.out⟩
/-- bytes of the call's own -/
def BytesB (l : List Int) : Prop := ∀ x ∈ l, (Lit.int .u8 x).wf = true
theorem BytesB.app {a b : List Int} (h : BytesB a) (k : BytesB b) : BytesB (a ++ b) := wf_append h k
theorem BytesB.le (x : Int) (n : Nat) : BytesB (leB x n) := leB_wf x n
theorem BytesB.nil : BytesB [] := by intro x hx; cases hx
theorem own_mono {w : World} {B B' : Nat} {v : Value} {zs : List Int} (h : OwnB w B v zs) (hb : B' ≤ B) : OwnB w B' v zs := mem.own_base h hb
theorem OwnB.nil (w : World) (B : Nat) : OwnB w B (.slice none 0 0) [] := World.ownsRow_nil _ _ _ _
theorem Put8_own (B : Nat) (v : Value) (zs : List Int) (n : Int) (W : World) (h : OwnB W B v zs) (hw : BytesB zs) (hz : zs.length ≤ 1000000) (hn : fit1 n) (hB : B ≤ W.heap.size) :
    Calls Try.prog 47 #[v, .int .i64 n] W fun e W' => ∃ v', e = .returned v' ∧ OwnB W' B v' (zs ++ leB n 1) ∧ Chg [] W W' := by
  unfold fit1 at hn
  have HP := Lib.hid (put_any v zs n 1 W (h.reads hw) (by omega) (by omega) (by decide) hz)
  have HB := Lib.hid hB
  have hwr : IntKind.u32.wrap n = n := by simp [IntKind.wrap, IntKind.signed, IntKind.bits]; omega
  clear h hw hz hB
  go_enter Try.func47, Try.ntmps47
  go_wp2_with (go_at_call 49; refine HP.out.mono ?_; rintro e w1 ⟨v1, rfl, h1, hc1⟩; have H1 := Lib.hid h1; have HC := Lib.hid hc1; clear h1 hc1)
  go_ret
  exact ⟨_, rfl, own_mono H1.out HB.out, HC.out⟩
theorem Put16_own (B : Nat) (v : Value) (zs : List Int) (n : Int) (W : World) (h : OwnB W B v zs) (hw : BytesB zs) (hz : zs.length ≤ 1000000) (hn : 0 ≤ n ∧ n ≤ 65535) (hB : B ≤ W.heap.size) :
    Calls Try.prog 34 #[v, .int .i64 n] W fun e W' => ∃ v', e = .returned v' ∧ OwnB W' B v' (zs ++ leB n 2) ∧ Chg [] W W' := by
  have HP := Lib.hid (put_any v zs n 2 W (h.reads hw) (by omega) (by omega) (by decide) hz)
  have HB := Lib.hid hB
  have hwr : IntKind.u32.wrap n = n := by simp [IntKind.wrap, IntKind.signed, IntKind.bits]; omega
  clear h hw hz hB
  go_enter Try.func34, Try.ntmps34
  go_wp2_with (go_at_call 49; refine HP.out.mono ?_; rintro e w1 ⟨v1, rfl, h1, hc1⟩; have H1 := Lib.hid h1; have HC := Lib.hid hc1; clear h1 hc1)
  go_ret
  exact ⟨_, rfl, own_mono H1.out HB.out, HC.out⟩
theorem Put32_own (B : Nat) (v : Value) (zs : List Int) (n : Int) (W : World) (h : OwnB W B v zs) (hw : BytesB zs) (hz : zs.length ≤ 1000000) (hn : fit4 n) (hB : B ≤ W.heap.size) :
    Calls Try.prog 56 #[v, .int .u32 n] W fun e W' => ∃ v', e = .returned v' ∧ OwnB W' B v' (zs ++ leB n 4) ∧ Chg [] W W' := by
  unfold fit4 at hn
  have HP := Lib.hid (put_any v zs n 4 W (h.reads hw) (by omega) (by omega) (by decide) hz)
  have HB := Lib.hid hB
  clear h hw hz hB
  go_enter Try.func56, Try.ntmps56
  go_wp2_with (go_at_call 49; refine HP.out.mono ?_; rintro e w1 ⟨v1, rfl, h1, hc1⟩; have H1 := Lib.hid h1; have HC := Lib.hid hc1; clear h1 hc1)
  go_ret
  exact ⟨_, rfl, own_mono H1.out HB.out, HC.out⟩
theorem enc1_wf (l : List Int) : BytesB (enc1 l) := by
  intro x hx
  obtain ⟨y, -, hy⟩ := List.mem_flatMap.1 hx
  exact leB_wf y 1 x hy
theorem enc4_wf (l : List Int) : BytesB (enc4 l) := by
  intro x hx
  obtain ⟨y, -, hy⟩ := List.mem_flatMap.1 hx
  exact leB_wf y 4 x hy
theorem enc1_len (l : List Int) : (enc1 l).length = l.length := by
  induction l with
  | nil => rfl
  | cons x r ih => unfold enc1 at ih ⊢; rw [List.flatMap_cons, List.length_append, ih, leB_length, List.length_cons]; omega
theorem enc4_len (l : List Int) : (enc4 l).length = 4 * l.length := by
  induction l with
  | nil => rfl
  | cons x r ih => unfold enc4 at ih ⊢; rw [List.flatMap_cons, List.length_append, ih, leB_length, List.length_cons]; omega
theorem flat_snoc (f : Int → List Int) {zs : List Int} {j : Nat} {x : Int} (h : zs[j]? = some x) : (zs.take (j + 1)).flatMap f = (zs.take j).flatMap f ++ f x := by
  have hj := List.getElem?_eq_some_iff.1 h
  rw [List.take_succ_eq_append_getElem hj.1, List.flatMap_append, hj.2]
  simp
set_option maxHeartbeats 2000000 in
theorem bytes_any (B : Nat) (v vl : Value) (zs l : List Int) (W : World) (h : OwnB W B v zs) (hw : BytesB zs) (hr : ReadsN W vl l) (hf : ∀ x ∈ l, fit1 x) (hz : zs.length + 1 * l.length ≤ 1000000) (hB : B ≤ W.heap.size) :
    Calls Try.prog 31 #[v, vl] W fun e W' => ∃ v', e = .returned v' ∧ OwnB W' B v' (zs ++ enc1 l) ∧ Chg [] W W' := by
  obtain ⟨bb, off, hix, hcell, hown⟩ := reads_index (P := Try.prog) Try.underlying51 szI hr
  obtain ⟨va, vc, rfl, _⟩ := reads_slice hr
  have HX := Lib.hid hix
  have HC := Lib.hid hcell
  have HO := Lib.hid h
  have HWB := Lib.hid hw
  have HF := Lib.hid hf
  have HZ := Lib.hid hz
  have HB := Lib.hid hB
  clear hix hcell hown hr h hw hf hz hB
  go_enter Try.func31, Try.ntmps31
  go_wp2_with fail
  go_loopw [0, 9] (fun b i wr => ∃ j : Nat, j ≤ l.length ∧ i = .int .i64 j ∧ Hid (OwnB wr B b (zs ++ enc1 (l.take j))) ∧ Hid (Chg [] W wr)) (fun _ i _ => l.length - (intOf i).toNat)
  case atStart => exact ⟨0, Nat.zero_le _, rfl, Lib.hid (by have := HO.out; simpa [enc1] using this), Lib.hid (Chg.refl _ _)⟩
  case round =>
    obtain ⟨j, hj, rfl, HOJ, HJ⟩ := hrel
    by_cases hlt : j < l.length
    · have HLT := Lib.hid hlt
      have g1 := HX.out j hlt
      obtain ⟨x, hxk⟩ : ∃ x, l[j]? = some x := ⟨_, List.getElem?_eq_getElem hlt⟩
      have q0 := HJ.out.keep (HC.out j (.int .i64 x) (by rw [List.getElem?_map, hxk]; rfl)) (by simp)
      have HK := Lib.hid hxk
      rw [Nat.mul_one] at g1
      have hjm : (j : Int) ≤ 9223372036854775806 := by have := HZ.out; omega
      have k8 : IntKind.i64.wrap ((j : Int) + 1) = (j : Int) + 1 := by rw [IntKind.wrap_i64]; omega
      have HP := Lib.hid (Put8_own B u0 (zs ++ enc1 (l.take j)) x wr HOJ.out (HWB.out.app (enc1_wf _)) (by have := HZ.out; rw [List.length_append, enc1_len, List.length_take]; omega) (HF.out x (List.mem_of_getElem? hxk)) (Nat.le_trans HB.out HJ.out.size))
      clear hxk hj hlt
      go_wp2_with (go_at_call 47; refine HP.out.mono ?_; rintro e w1 ⟨v1, rfl, h1, hc1⟩; have H1 := Lib.hid h1; have HC1 := Lib.hid (HJ.out.trans hc1); clear h1 hc1)
      have hltj := HLT.out
      go_roundw
      case rel => exact ⟨j + 1, by omega, by go_num, Lib.hid (by unfold enc1; rw [flat_snoc _ HK.out, ← List.append_assoc]; exact H1.out), HC1⟩
      case measure => simp [intOf]; omega
    · obtain rfl : l.length = j := by omega
      clear hlt hj
      go_wp2_with fail
      go_ret
      exact ⟨_, rfl, by have := HOJ.out; rwa [List.take_length] at this, HJ.out⟩
set_option maxHeartbeats 2000000 in
theorem words_any (B : Nat) (v vl : Value) (zs l : List Int) (W : World) (h : OwnB W B v zs) (hw : BytesB zs) (hr : ReadsW W vl l) (hf : ∀ x ∈ l, fit4 x) (hz : zs.length + 4 * l.length ≤ 1000000) (hB : B ≤ W.heap.size) :
    Calls Try.prog 48 #[v, vl] W fun e W' => ∃ v', e = .returned v' ∧ OwnB W' B v' (zs ++ enc4 l) ∧ Chg [] W W' := by
  obtain ⟨bb, off, hix, hcell, hown⟩ := reads_index (P := Try.prog) Try.underlying50 sz32 hr.1
  obtain ⟨va, vc, rfl, _⟩ := reads_slice hr.1
  have HX := Lib.hid hix
  have HC := Lib.hid hcell
  have HO := Lib.hid h
  have HWB := Lib.hid hw
  have HF := Lib.hid hf
  have HZ := Lib.hid hz
  have HB := Lib.hid hB
  clear hix hcell hown hr h hw hf hz hB
  go_enter Try.func48, Try.ntmps48
  go_wp2_with fail
  go_loopw [0, 9] (fun b i wr => ∃ j : Nat, j ≤ l.length ∧ i = .int .i64 j ∧ Hid (OwnB wr B b (zs ++ enc4 (l.take j))) ∧ Hid (Chg [] W wr)) (fun _ i _ => l.length - (intOf i).toNat)
  case atStart => exact ⟨0, Nat.zero_le _, rfl, Lib.hid (by have := HO.out; simpa [enc4] using this), Lib.hid (Chg.refl _ _)⟩
  case round =>
    obtain ⟨j, hj, rfl, HOJ, HJ⟩ := hrel
    by_cases hlt : j < l.length
    · have HLT := Lib.hid hlt
      have g1 := HX.out j hlt
      obtain ⟨x, hxk⟩ : ∃ x, l[j]? = some x := ⟨_, List.getElem?_eq_getElem hlt⟩
      have q0 := HJ.out.keep (HC.out j (.int .u32 x) (by rw [List.getElem?_map, hxk]; rfl)) (by simp)
      have HK := Lib.hid hxk
      rw [Nat.mul_one] at g1
      have hjm : (j : Int) ≤ 9223372036854775806 := by have := HZ.out; omega
      have k8 : IntKind.i64.wrap ((j : Int) + 1) = (j : Int) + 1 := by rw [IntKind.wrap_i64]; omega
      have HP := Lib.hid (Put32_own B u0 (zs ++ enc4 (l.take j)) x wr HOJ.out (HWB.out.app (enc4_wf _)) (by have := HZ.out; rw [List.length_append, enc4_len, List.length_take]; omega) (HF.out x (List.mem_of_getElem? hxk)) (Nat.le_trans HB.out HJ.out.size))
      clear hxk hj hlt
      go_wp2_with (go_at_call 56; refine HP.out.mono ?_; rintro e w1 ⟨v1, rfl, h1, hc1⟩; have H1 := Lib.hid h1; have HC1 := Lib.hid (HJ.out.trans hc1); clear h1 hc1)
      have hltj := HLT.out
      go_roundw
      case rel => exact ⟨j + 1, by omega, by go_num, Lib.hid (by unfold enc4; rw [flat_snoc _ HK.out, ← List.append_assoc]; exact H1.out), HC1⟩
      case measure => simp [intOf]; omega
    · obtain rfl : l.length = j := by omega
      clear hlt hj
      go_wp2_with fail
      go_ret
      exact ⟨_, rfl, by have := HOJ.out; rwa [List.take_length] at this, HJ.out⟩
theorem sumB_step {zs : List Int} {j : Nat} {x : Int} (h : zs[j]? = some x) : sumM (zs.take (j + 1)) = (sumM (zs.take j) + x) % 65536 := by
  have hj := List.getElem?_eq_some_iff.1 h
  unfold sumM
  rw [List.take_succ_eq_append_getElem hj.1, sumB_append, hj.2]
  simp only [sumB]
  omega
set_option maxHeartbeats 2000000 in
theorem Sum_any (v : Value) (zs : List Int) (W : World) (hr : ReadsB W v zs) (hl : zs.length ≤ 1000000) :
    Calls Try.prog 16 #[v] W fun e W' => e = .returned (.int .i64 (sumM zs)) ∧ Chg [] W W' := by
  obtain ⟨bb, off, hix, hcell, hown⟩ := reads_index (P := Try.prog) Try.underlying22 sz5 hr.1
  have HW := Lib.hid hr.2
  obtain ⟨va, vc, rfl, _⟩ := reads_slice hr.1
  have HX := Lib.hid hix
  have HC := Lib.hid hcell
  have HL := Lib.hid hl
  clear hix hcell hown hr hl
  go_enter Try.func16, Try.ntmps16
  go_wp2_with fail
  go_loopw [3, 8] (fun n i wr => ∃ j : Nat, j ≤ zs.length ∧ i = .int .i64 j ∧ n = .int .u16 (sumM (zs.take j)) ∧ Hid (Chg [] W wr)) (fun _ i _ => zs.length - (intOf i).toNat)
  case atStart => exact ⟨0, Nat.zero_le _, rfl, rfl, Lib.hid (Chg.refl _ _)⟩
  case round =>
    obtain ⟨j, hj, rfl, rfl, HJ⟩ := hrel
    have hb := sumM_bd (zs.take j)
    by_cases hlt : j < zs.length
    · have HLT := Lib.hid hlt
      have g1 := HX.out j hlt
      obtain ⟨x, hxk⟩ : ∃ x, zs[j]? = some x := ⟨_, List.getElem?_eq_getElem hlt⟩
      have q0 := HJ.out.keep (HC.out j (.int .u8 x) (by rw [List.getElem?_map, hxk]; rfl)) (by simp)
      have HST := Lib.hid (sumB_step hxk)
      have hx := wf_u8 (HW.out x (List.mem_of_getElem? hxk))
      rw [Nat.mul_one] at g1
      have hjm : (j : Int) ≤ 9223372036854775806 := by have := HL.out; omega
      have k8 : IntKind.i64.wrap ((j : Int) + 1) = (j : Int) + 1 := by rw [IntKind.wrap_i64]; omega
      obtain ⟨s, hs⟩ : ∃ s, sumM (zs.take j) = s := ⟨_, rfl⟩
      rw [hs] at hb HST ⊢
      have k7 : IntKind.u16.wrap x = x := by simp [IntKind.wrap, IntKind.signed, IntKind.bits]; omega
      have k6 : IntKind.u16.wrap (s + x) = (s + x) % 65536 := by simp [IntKind.wrap, IntKind.signed, IntKind.bits]
      have k5 : IntKind.i64.wrap x = x := by rw [IntKind.wrap_i64]; omega
      clear hxk hj hlt hs
      go_wp2_with fail
      have hltj := HLT.out
      go_roundw
      case rel => exact ⟨j + 1, by omega, by go_num, by rw [HST.out], HJ⟩
      case measure => simp [intOf]; omega
    · obtain rfl : zs.length = j := by omega
      clear hlt hj
      rw [List.take_length] at hb ⊢
      have k5 : IntKind.i64.wrap (sumM zs) = sumM zs := by rw [IntKind.wrap_i64]; omega
      go_wp2_with fail
      go_ret
      exact ⟨rfl, HJ.out⟩
set_option maxHeartbeats 2000000 in
theorem rSum_any (v : Value) (zs : List Int) (W : World) (hr : ReadsB W v zs) (hl : zs.length ≤ 1000000) :
    Calls Try.prog 17 #[v] W fun e W' => e = .returned (.int .i64 (sumM zs)) ∧ Chg [] W W' := by
  obtain ⟨bb, off, hix, hcell, hown⟩ := reads_index (P := Try.prog) Try.underlying22 sz5 hr.1
  have HW := Lib.hid hr.2
  obtain ⟨va, vc, rfl, _⟩ := reads_slice hr.1
  have HX := Lib.hid hix
  have HC := Lib.hid hcell
  have HL := Lib.hid hl
  clear hix hcell hown hr hl
  go_enter Try.func17, Try.ntmps17
  go_wp2_with fail
  go_loopw [3, 8] (fun n i wr => ∃ j : Nat, j ≤ zs.length ∧ i = .int .i64 j ∧ n = .int .i64 (sumM (zs.take j)) ∧ Hid (Chg [] W wr)) (fun _ i _ => zs.length - (intOf i).toNat)
  case atStart => exact ⟨0, Nat.zero_le _, rfl, rfl, Lib.hid (Chg.refl _ _)⟩
  case round =>
    obtain ⟨j, hj, rfl, rfl, HJ⟩ := hrel
    have hb := sumM_bd (zs.take j)
    by_cases hlt : j < zs.length
    · have HLT := Lib.hid hlt
      have g1 := HX.out j hlt
      obtain ⟨x, hxk⟩ : ∃ x, zs[j]? = some x := ⟨_, List.getElem?_eq_getElem hlt⟩
      have q0 := HJ.out.keep (HC.out j (.int .u8 x) (by rw [List.getElem?_map, hxk]; rfl)) (by simp)
      have HST := Lib.hid (sumB_step hxk)
      have hx := wf_u8 (HW.out x (List.mem_of_getElem? hxk))
      rw [Nat.mul_one] at g1
      have hjm : (j : Int) ≤ 9223372036854775806 := by have := HL.out; omega
      have k8 : IntKind.i64.wrap ((j : Int) + 1) = (j : Int) + 1 := by rw [IntKind.wrap_i64]; omega
      obtain ⟨s, hs⟩ : ∃ s, sumM (zs.take j) = s := ⟨_, rfl⟩
      rw [hs] at hb HST ⊢
      have k7 : IntKind.u16.wrap x = x := by simp [IntKind.wrap, IntKind.signed, IntKind.bits]; omega
      have k6 : IntKind.u16.wrap (s + x) = (s + x) % 65536 := by simp [IntKind.wrap, IntKind.signed, IntKind.bits]
      have k5 : IntKind.i64.wrap x = x := by rw [IntKind.wrap_i64]; omega
      clear hxk hj hlt hs
      go_wp2_with fail
      have hltj := HLT.out
      go_roundw
      case rel => exact ⟨j + 1, by omega, by go_num, by rw [HST.out], HJ⟩
      case measure => simp [intOf]; omega
    · obtain rfl : zs.length = j := by omega
      clear hlt hj
      rw [List.take_length] at hb ⊢
      have k5 : IntKind.i64.wrap (sumM zs) = sumM zs := by rw [IntKind.wrap_i64]; omega
      go_wp2_with fail
      go_ret
      exact ⟨rfl, HJ.out⟩
end Go.Proofs.Ytkmalnojkjmjiaa.img
