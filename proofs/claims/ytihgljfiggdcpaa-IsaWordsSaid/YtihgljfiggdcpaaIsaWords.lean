/-
  coxswainlaw08.IsaWords returns true for every op and s: any kind's word, and any word's kind. No conditions.
-/
import Derived.Test.YtihgljfiggdcpaaRows
import Derived.WalkKit
import Derived.ProofKit
import Derived.OpenShut
import Derived.ShutString
import Derived.ChangeOld
import Derived.Below
import Derived.Test.YtihgljfiggdcpaaOpen
import Derived.Test.YtihgljfiggdcpaaIsa5
namespace Go.Proofs.Ytihgljfiggdcpaa.isaWords
open Go.ChangeShapes Go.WideShapes Go.ChangeAt Go.RowKit
open Go.ChangeMaps (open_string shut_string)
set_option linter.unusedVariables false
open Go.Proofs.Ytihgljfiggdcpaa.kit Go.Proofs.Ytihgljfiggdcpaa.isa
def wantAt (op : Int) (k : Nat) : ByteArray := if 0 ≤ op ∧ op < k then wordB op.toNat else ⟨#[]⟩
theorem wantAt_hit (k : Nat) : wantAt (k : Int) (k + 1) = wordB k := by unfold wantAt; rw [if_pos ⟨by omega, by omega⟩]; rfl
theorem wantAt_miss (op : Int) (k : Nat) (h : ¬ op = k) : wantAt op (k + 1) = wantAt op k := by
  unfold wantAt
  by_cases h1 : 0 ≤ op ∧ op < k
  · rw [if_pos h1, if_pos ⟨h1.1, by omega⟩]
  · rw [if_neg h1, if_neg (by omega)]
def hitAt (s : ByteArray) (k : Nat) (kind : Value) (is : Value) : Prop := (firstW s k ∧ kind = .int .i64 0 ∧ is = .bool false) ∨ ∃ j : Nat, j < k ∧ wordB j = s ∧ kind = .int .i64 j ∧ is = .bool true
set_option maxRecDepth 100000 in
set_option maxHeartbeats 2000000 in
theorem main (op : Int) (s : ByteArray) (hs : s.size ≤ maxLen) (w : World) :
    Calls Try.prog 4 #[.int .i64 op, .string s] w fun e w' => e = .returned (.bool true) ∧ Below w.heap.size w w' := by
  by_cases hlen : 100 < s.size
  · go_enter Try.func4, Try.ntmps4
    go_wp2_with (go_at_call 20; refine (awake_any _).mono ?_; rintro e w1 ⟨rfl, hc1⟩)
    go_ret
    exact ⟨rfl, hc1.below⟩
  · go_enter Try.func4, Try.ntmps4
    go_wp2_with (go_at_call 21; refine (Words_any _).mono ?_; rintro e w1 ⟨b, rfl, hb, hc1⟩; have HB := Lib.hid hb; have HC1 := Lib.hid hc1; clear hb hc1)
    go_loopw [6, 7, 8, 20] (fun want kind is i wr => ∃ k : Nat, k ≤ 22 ∧ i = .int .i64 k ∧ want = .string (wantAt op k) ∧ Hid (hitAt s k kind is) ∧ w1 = wr) (fun _ _ _ i _ => 22 - (intOf i).toNat)
    case atStart => exact ⟨0, by omega, rfl, by (rw [show wantAt op 0 = ⟨#[]⟩ from by unfold wantAt; rw [if_neg (by omega)]]), Lib.hid (.inl ⟨fun i hi => by omega, rfl, rfl⟩), rfl⟩
    case round =>
      obtain ⟨k, hk, rfl, rfl, HH, rfl⟩ := hrel
      by_cases hlt : k < 22
      · have g1 : w1.cell? ⟨b, k, none⟩ = some (.string (wordB k)) := HB.out.cell (wordsC_get k hlt)
        have HG1 := Lib.hid g1
        by_cases hs2 : wordB k = s
        · have hsb : ((wordB k).toList == s.toList) = true := by rw [hs2]; simp
          have HS2 := Lib.hid hs2
          clear hs2
          by_cases hop : (k : Int) = op
          · subst hop
            go_wp2_with fail
            go_roundw
            case rel => exact ⟨k + 1, by omega, by go_num, by rw [wantAt_hit], Lib.hid (.inr ⟨k, by omega, HS2.out, rfl, rfl⟩), trivial⟩
            case measure => simp [intOf]; omega
          · have HO := Lib.hid hop
            have hob : ((k : Int) == op) = false := by simpa using hop
            go_wp2_with fail
            go_roundw
            case rel => exact ⟨k + 1, by omega, by go_num, by rw [wantAt_miss op k (fun h => HO.out h.symm)], Lib.hid (.inr ⟨k, by omega, HS2.out, rfl, rfl⟩), trivial⟩
            case measure => simp [intOf]; omega
        · have hsb : ((wordB k).toList == s.toList) = false := by
            rw [Bool.eq_false_iff]
            intro h
            rw [beq_iff_eq] at h
            exact hs2 (toList_inj h)
          have HS2 := Lib.hid hs2
          clear hs2
          have HH2 : Hid (∀ kind is, hitAt s k kind is → hitAt s (k + 1) kind is) := by
            refine Lib.hid (fun kind is h => ?_)
            rcases h with ⟨h1, h2, h3⟩ | ⟨m, h1, h2, h3, h4⟩
            · refine .inl ⟨fun i hi => ?_, h2, h3⟩
              by_cases hik : i = k
              · subst hik; exact HS2.out
              · exact h1 i (by omega)
            · exact .inr ⟨m, by omega, h2, h3, h4⟩
          by_cases hop : (k : Int) = op
          · subst hop
            go_wp2_with fail
            go_roundw
            case rel => exact ⟨k + 1, by omega, by go_num, by rw [wantAt_hit], Lib.hid (HH2.out _ _ HH.out), trivial⟩
            case measure => simp [intOf]; omega
          · have HO := Lib.hid hop
            have hob : ((k : Int) == op) = false := by simpa using hop
            go_wp2_with fail
            go_roundw
            case rel => exact ⟨k + 1, by omega, by go_num, by rw [wantAt_miss op k (fun h => HO.out h.symm)], Lib.hid (HH2.out _ _ HH.out), trivial⟩
            case measure => simp [intOf]; omega
      · obtain rfl : k = 22 := by omega
        have hwant : ∀ u, Calls Try.prog 23 #[.int .i64 op] u fun e w' => e = .returned (.string (wantAt op 22)) ∧ Chg [] u w' := by
          intro u
          by_cases ho : 0 ≤ op ∧ op < 22
          · obtain ⟨m, rfl⟩ := Int.eq_ofNat_of_zero_le ho.1
            rw [show wantAt (m : Int) 22 = wordB m from by unfold wantAt; rw [if_pos ⟨ho.1, by omega⟩]; rfl]
            exact Word_in m (by omega) u
          · rw [show wantAt op 22 = ⟨#[]⟩ from by unfold wantAt; exact if_neg (by simpa using ho)]
            refine (Word_out op (by omega) u).mono ?_
            rintro e w' ⟨rfl, rfl⟩
            exact ⟨rfl, Chg.refl _ _⟩
        have HWT := Lib.hid hwant
        have hkind : ∃ (m : Int) (q : Bool), u7 = .int .i64 m ∧ u8 = .bool q ∧ ∀ u, Calls Try.prog 22 #[.string s] u fun e w' => e = .returned (.tuple #[.int .i64 m, .bool q]) ∧ Chg [] u w' := by
          rcases HH.out with ⟨h1, h2, h3⟩ | ⟨m, h1, h2, h3, h4⟩
          · refine ⟨0, false, h2, h3, fun u => (Kind_any s u).mono ?_⟩
            rintro e w' ⟨⟨k, hk, hks, _, _⟩ | ⟨_, rfl⟩, hc⟩
            · exact absurd hks (h1 k hk)
            · exact ⟨rfl, hc⟩
          · refine ⟨m, true, h3, h4, fun u => (Kind_any s u).mono ?_⟩
            rintro e w' ⟨⟨k, hk, hks, _, rfl⟩ | ⟨hno, _⟩, hc⟩
            · obtain rfl := wordB_inj k m hk h1 (hks.trans h2.symm)
              exact ⟨rfl, hc⟩
            · exact absurd h2 (hno m h1)
        obtain ⟨m, q, rfl, rfl, hK⟩ := hkind
        have HK := Lib.hid hK
        clear hwant hK HH
        generalize wantAt op 22 = want at *
        go_wp2_with (first | (go_at_call 22; refine (HK.out _).mono ?_; rintro e w2 ⟨rfl, hc2⟩) | (go_at_call 23; refine (HWT.out _).mono ?_; rintro e w3 ⟨rfl, hc3⟩) | (go_at_call 20; refine (awake_any _).mono ?_; rintro e w4 ⟨rfl, hc4⟩))
        go_ret
        exact ⟨rfl, (((HC1.out.trans hc2).trans hc3).trans hc4).below⟩
theorem own : ownKnob Try.prog.godebug = none := by kernel_rfl
theorem laidOut : laidOutB Try.prog = true := by kernel_rfl

/-- The walk: the law returns true, and nothing that was there has turned. -/
theorem walk (w : World) (x0 : Int) (w0 : (Lit.int .i64 x0).wf = true) (s1 : ByteArray) (hs1 : s1.size ≤ maxLen) :
    Calls Try.prog 4 #[.int .i64 x0, .string s1] w fun e w' => e = .returned (.bool true) ∧ Below w.heap.size w w' := by
  exact main x0 s1 hs1 w

set_option maxRecDepth 100000 in
theorem lifted (os : Os) (started : os.Started) (H : Type) (enc : TypeId × Value → H) :
    ReturnsInHanded {} Try.checked os 4 .any (Rows.isaWordsSpec.pre6 enc Try.prog Try.f4 Rows.isaWordsRow.domain false) (Rows.isaWordsSpec.post enc Try.prog Try.f4 false true false false) := by
  refine returnsInHanded_of_change (C := Try.checked) own started (by kernel_rfl) Try.func4
    (ChangeSpec.witness6 (enc := enc) (C := Try.checked) false ⟨#[], #[.int .i64 0, .string .empty], []⟩ 8 (by kernel_rfl) (by kernel_rfl) (by kernel_rfl) (by kernel_rfl)) ?_
  intro W base args ds gs before hval0 hW hcnd _
  have hval : ∀ (j : Nat) t v, Try.f4.params[j]? = some t → args[j]? = some v → Value.okWide Try.prog W .any base t v := hval0
  have hW' := hW
  obtain ⟨p, q, hA0, hV, rfl, hfz, hnd⟩ := hW
  have hA : DataW.TrodAll enc Try.prog W 0 (fun _ => true) true Try.f4.params.toList args.toList ds p := hA0
  rw [Try.params4] at hA hval
  obtain ⟨v0, vs0, d0, ds0, p0, q0, hargs, rfl, rfl, h0, r0⟩ := trodAll_cons hA
  obtain ⟨v1, vs1, d1, ds1, p1, q1, rfl, rfl, rfl, h1, r1⟩ := trodAll_cons r0
  obtain ⟨rfl, rfl, rfl⟩ := trodAll_nil r1
  obtain rfl : args = #[v0, v1] := by cases args; simp_all
  obtain ⟨rfl, rfl⟩ := trodVars_none hV
  have k0 := h0
  have lt0 : ∀ x ∈ p0, x.block < W.heap.size := by obtain ⟨m, hm⟩ := k0; exact DataW.trod_lt m _ _ _ hm
  have k1 := h1
  have lt1 : ∀ x ∈ p1, x.block < W.heap.size := by obtain ⟨m, hm⟩ := k1; exact DataW.trod_lt m _ _ _ hm
  obtain ⟨x0, rfl, _, _, w0⟩ := open_int Try.underlying3 (hval 0 3 v0 rfl rfl) h0
  obtain ⟨s1, rfl, _, _, hs1⟩ := open_string Try.underlying9 (hval 1 9 v1 rfl rfl) h1
  clear hA0 hval0
  refine (walk W x0 w0 s1 hs1).mono fun e W' ⟨he, bel⟩ => ?_
  subst he
  exact ⟨_, rfl, _, _, _, [], _, [], hW', trodAll_mk1 (shut_bool Try.underlying4 _), (trodAll_cons_mk (Below.trod laidOut (by kernel_rfl) (of_decide_eq_true (by kernel_rfl)) k0 bel lt0) (trodAll_cons_mk (Below.trod laidOut (by kernel_rfl) (of_decide_eq_true (by kernel_rfl)) k1 bel lt1) trodAll_mk0)), rfl, bel.frame _, fun h => by cases h⟩

theorem over : Rows.isaWordsRow.holds Try.pinned (OpenSpec.ofChange Rows.isaWordsSpec) :=
  OpenClaim.holds_of_wide 4 Try.f4 rfl rfl rfl rfl rfl rfl rfl ⟨rfl, rfl, rfl, rfl, rfl⟩ rfl rfl rfl rfl rfl (by kernel_rfl) Try.func4 (by kernel_rfl)
    (of_decide_eq_true (by kernel_rfl)) (by unfold Func.isWrapper; first | (rw [if_pos (by decide +kernel)]; kernel_rfl) | (rw [if_neg (by decide +kernel)]; exact ⟨rfl, rfl⟩))
    (fun os started H enc _ => lifted os started H enc)

/-- The statement. -/
theorem proved : Rows.IsaWordsSaid := over
end Go.Proofs.Ytihgljfiggdcpaa.isaWords
