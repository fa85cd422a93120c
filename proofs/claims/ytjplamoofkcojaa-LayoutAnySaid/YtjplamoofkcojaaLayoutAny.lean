/-
  coxswainlaw31.LayoutAny returns true for every l and at: of any layout whatever the first task, or the first object, in whose region a word lies is its owner. No conditions.
-/
import Derived.Test.YtjplamoofkcojaaRows
import Derived.WalkKit
import Derived.ProofKit
import Derived.OpenShut
import Derived.ShutString
import Derived.ChangeOld
import Derived.Below
import Derived.Test.YtjplamoofkcojaaOpen
import Derived.Test.YtjplamoofkcojaaLay2
import Derived.Test.YtjplamoofkcojaaLay8
namespace Go.Proofs.Ytjplamoofkcojaa.layoutAny
open Go.ChangeShapes Go.WideShapes Go.ChangeAt Go.RowKit
open Go.ChangeMaps (open_string shut_string)
set_option linter.unusedVariables false
open Go.Proofs.Ytjplamoofkcojaa.kit Go.Proofs.Ytjplamoofkcojaa.obj Go.Proofs.Ytjplamoofkcojaa.mem Go.Proofs.Ytjplamoofkcojaa.lay
set_option linter.unusedSimpArgs false
set_option linter.unusedVariables false
set_option maxRecDepth 100000
def okR (r : Int × Int) : Prop := 0 ≤ r.1 ∧ r.1 ≤ 1099511627776 ∧ 0 ≤ r.2 ∧ r.2 ≤ 1099511627776
theorem firstI_neg {p : Int × Int → Bool} {rs : List (Int × Int)} (h : firstI p rs < 0) : firstI p rs = -1 := by
  unfold firstI at h ⊢
  cases hf : rs.findIdx? p with
  | none => rfl
  | some i => rw [hf] at h; simp at h; omega
theorem firstI_step {p : Int × Int → Bool} {rs : List (Int × Int)} {j : Nat} {r : Int × Int} (h : rs[j]? = some r) : firstI p (rs.take (j + 1)) = if 0 ≤ firstI p (rs.take j) then firstI p (rs.take j) else if p r = true then (j : Int) else -1 := by
  have hj := List.getElem?_eq_some_iff.1 h
  have hl : (rs.take j).length = j := by rw [List.length_take]; have := hj.1; omega
  unfold firstI
  rw [List.take_succ_eq_append_getElem hj.1, List.findIdx?_append, hj.2, hl]
  cases hf : (rs.take j).findIdx? p with
  | some i => simp
  | none => cases hp : p r <;> simp [List.findIdx?_cons, hp]
theorem take_ok {P : Int × Int → Prop} {l : List (Int × Int)} {j : Nat} {t : Int × Int} (ha : ∀ r ∈ l.take j, P r) (h : l[j]? = some t) (hp : P t) : ∀ r ∈ l.take (j + 1), P r := by
  have hj := List.getElem?_eq_some_iff.1 h
  rw [List.take_succ_eq_append_getElem hj.1, hj.2]
  intro r hr
  rcases List.mem_append.1 hr with h1 | h1
  · exact ha r h1
  · simp at h1; subst h1; exact hp
theorem owner_eq {at_ : Int} {rs qs : List (Int × Int)} (h1 : ∀ r ∈ rs, okR r) (h2 : ∀ r ∈ qs, okR r) : ownerI at_ rs qs = (firstI (hasB at_) rs, if 0 ≤ firstI (hasB at_) rs then -1 else firstI (hasB at_) qs) := by
  have none_of : ∀ l : List (Int × Int), (∀ r ∈ l, okR r) → at_ < 0 → firstI (hasB at_) l = -1 := fun l hl ha => firstI_none (fun i q hq => by
    have h9 := (hl q (List.mem_of_getElem? hq)).1
    simp [hasB]; omega)
  unfold ownerI
  by_cases ha : at_ < 0
  · rw [if_pos ha, none_of rs h1 ha, none_of qs h2 ha]; rfl
  · rw [if_neg ha]
    by_cases hb : 0 ≤ firstI (hasB at_) rs
    · rw [if_pos hb, if_pos hb]
    · rw [if_neg hb, if_neg hb, firstI_neg (p := hasB at_) (rs := rs) (by omega)]
/-- what is wanted so far, ahead of list number k -/
def stW (at_ : Int) (rs qs : List (Int × Int)) (k w0 w1 : Int) : Prop :=
  if k = 0 then w0 = -1 ∧ w1 = -1 else if k = 1 then (w0 = firstI (hasB at_) rs ∧ w1 = -1) ∧ ∀ r ∈ rs, okR r
  else (w0 = firstI (hasB at_) rs ∧ w1 = if 0 ≤ w0 then -1 else firstI (hasB at_) qs) ∧ (∀ r ∈ rs, okR r) ∧ ∀ r ∈ qs, okR r
set_option maxHeartbeats 8000000 in
theorem main (a : Option Addr) (c : Nat) (a2 : Option Addr) (c2 : Nat) (sz : Int) (rs qs : List (Int × Int)) (at_ : Int) (W : World) (h1 : ReadsR W (.slice a rs.length c) rs) (h2 : ReadsR W (.slice a2 qs.length c2) qs) (hl : rs.length ≤ 60 ∧ qs.length ≤ 60) (ha : at_ ≤ 9223372036854775807) :
    Calls Try.prog 6 #[.agg #[.slice a rs.length c, .slice a2 qs.length c2, .int .i64 sz], .int .i64 at_] W fun e W' => e = .returned (.bool true) ∧ Below W.heap.size W W' := by
  obtain ⟨b1, o1, hx1, hc1, -⟩ := reads_index (P := Try.prog) Try.underlying51 szReg h1.1
  obtain ⟨b2, o2, hx2, hc2, -⟩ := reads_index (P := Try.prog) Try.underlying51 szReg h2.1
  have HX1 := Lib.hid hx1
  have HE1 := Lib.hid hc1
  have HX2 := Lib.hid hx2
  have HE2 := Lib.hid hc2
  have HI1 := Lib.hid h1.2
  have HI2 := Lib.hid h2.2
  have HR1 := Lib.hid h1
  have HR2 := Lib.hid h2
  have HL := Lib.hid hl
  have HA := Lib.hid ha
  have HCA : Hid (Chg [] W (W.alloc (.cells #[.slice a rs.length c, .slice a2 qs.length c2, .int .i64 sz] 53))) := Lib.hid ((Chg.refl _ _).alloc _)
  have i0 : ∀ w, (Instr.index 63 (.agg #[.slice a rs.length c, .slice a2 qs.length c2]) (.int .i64 0)).run Try.prog w = .ok (.slice a rs.length c) w := fun _ => by kernel_rfl
  have i1 : ∀ w, (Instr.index 63 (.agg #[.slice a rs.length c, .slice a2 qs.length c2]) (.int .i64 1)).run Try.prog w = .ok (.slice a2 qs.length c2) w := fun _ => by kernel_rfl
  have hl1 : (rs.length : Int) ≤ 60 := by omega
  have hl2 : (qs.length : Int) ≤ 60 := by omega
  clear hx1 hc1 hx2 hc2 h1 h2 hl ha
  go_enter Try.func6, Try.ntmps6
  go_wp2_with fail
  go_loopw [29] (fun i wr => ∃ (k w0 w1 : Int), (k = 0 ∨ k = 1 ∨ k = 2) ∧ i = .int .i64 k ∧ Hid (Blk wr (W.heap.size + 1) #[.int .i64 w0, .int .i64 w1] 62) ∧ Hid (stW at_ rs qs k w0 w1) ∧ Hid (Chg [] (W.alloc (.cells #[.slice a rs.length c, .slice a2 qs.length c2, .int .i64 sz] 53)) wr)) (fun i _ => 2 - (intOf i).toNat)
  case atStart => exact ⟨0, -1, -1, .inl rfl, rfl, Lib.hid (by have := Blk.new (W.alloc (.cells #[.slice a rs.length c, .slice a2 qs.length c2, .int .i64 sz] 53)) #[.int .i64 (-1), .int .i64 (-1)] 62; rwa [show (W.alloc (.cells #[.slice a rs.length c, .slice a2 qs.length c2, .int .i64 sz] 53)).heap.size = W.heap.size + 1 by simp] at this), Lib.hid ⟨rfl, rfl⟩, Lib.hid ((Chg.refl _ _).alloc _)⟩
  case round =>
    obtain ⟨k, w0, w1, hk, rfl, HBK, HWK, HCK⟩ := hrel
    obtain ⟨wo, rfl⟩ : ∃ wo : World, wo = wr := ⟨_, rfl⟩
    rcases hk with rfl | rfl | rfl
    · have HWK : Hid ((w0 = -1 ∧ w1 = -1) ∧ True) := Lib.hid ⟨HWK.out, trivial⟩
      go_wp2_with fail
      go_loopw [35] (fun i wr => ∃ (j : Nat) (w0 w1 : Int), j ≤ rs.length ∧ i = .int .i64 j ∧ Hid (Blk wr (W.heap.size + 1) #[.int .i64 w0, .int .i64 w1] 62) ∧ Hid (w1 = -1) ∧ Hid (w0 = firstI (hasB at_) (rs.take j)) ∧ Hid (∀ r ∈ rs.take j, okR r) ∧ Hid (Chg [] (W.alloc (.cells #[.slice a rs.length c, .slice a2 qs.length c2, .int .i64 sz] 53)) wr)) (fun i _ => rs.length - (intOf i).toNat)
      case atStart => exact ⟨0, _, _, Nat.zero_le _, rfl, HBK, Lib.hid HWK.out.1.2, Lib.hid HWK.out.1.1, Lib.hid (by simp), HCK⟩
      case round =>
        clear HBK HWK HCK
        obtain ⟨j, w0, w1, hj, rfl, HBK, HW1, HW0, HOK, HCK⟩ := hrel
        by_cases hlt : j < rs.length
        · have HLT := Lib.hid hlt
          have g1 := HX1.out j hlt
          obtain ⟨⟨r0, r1⟩, hrk⟩ : ∃ r, rs[j]? = some r := ⟨_, List.getElem?_eq_getElem hlt⟩
          have q0 := (HCA.out.trans HCK.out).keep (HE1.out (j * 2 + 0) _ (by rw [flatMap_get rcells 2 (fun _ => rfl) rs j 0 (by decide) _ hrk]; rfl)) (by simp)
          have q1 := (HCA.out.trans HCK.out).keep (HE1.out (j * 2 + 1) _ (by rw [flatMap_get rcells 2 (fun _ => rfl) rs j 1 (by decide) _ hrk]; rfl)) (by simp)
          rw [Nat.add_zero] at q0
          rw [← Nat.add_assoc] at q1
          have HK := Lib.hid hrk
          have HRI := Lib.hid (HI1.out _ (List.mem_of_getElem? hrk))
          have hj1000 : (j : Int) < 100 := by have := HL.out; omega
          have k8 : IntKind.i64.wrap ((j : Int) + 1) = (j : Int) + 1 := by rw [IntKind.wrap_i64]; omega
          have HBA : Hid (Blk (wr.alloc (.cells #[.int .i64 r0, .int .i64 r1] 58)) (W.heap.size + 1) #[.int .i64 w0, .int .i64 w1] 62) := Lib.hid (HBK.out.alloc _)
          have e0 := HBA.out.cell (o := 0) rfl
          have e1 := HBA.out.cell (o := 1) rfl
          have f0 := HBA.out.free 0
          clear hrk hj hlt
          by_cases b1 : r0 < 0
          · go_wp2_with (go_at_call 21; refine (lay.awake_any _).mono ?_; rintro e wz ⟨rfl, hz⟩; have HZ := Lib.hid hz; clear hz)
            go_ret
            exact ⟨rfl, (HCA.out.trans ((HCK.out.alloc _).trans HZ.out)).below⟩
          by_cases b2 : r0 > 1099511627776
          · go_wp2_with (go_at_call 21; refine (lay.awake_any _).mono ?_; rintro e wz ⟨rfl, hz⟩; have HZ := Lib.hid hz; clear hz)
            go_ret
            exact ⟨rfl, (HCA.out.trans ((HCK.out.alloc _).trans HZ.out)).below⟩
          by_cases b3 : r1 < 0
          · go_wp2_with (go_at_call 21; refine (lay.awake_any _).mono ?_; rintro e wz ⟨rfl, hz⟩; have HZ := Lib.hid hz; clear hz)
            go_ret
            exact ⟨rfl, (HCA.out.trans ((HCK.out.alloc _).trans HZ.out)).below⟩
          by_cases b4 : r1 > 1099511627776
          · go_wp2_with (go_at_call 21; refine (lay.awake_any _).mono ?_; rintro e wz ⟨rfl, hz⟩; have HZ := Lib.hid hz; clear hz)
            go_ret
            exact ⟨rfl, (HCA.out.trans ((HCK.out.alloc _).trans HZ.out)).below⟩
          have HOKS : Hid (∀ r ∈ rs.take (j + 1), okR r) := Lib.hid (take_ok HOK.out HK.out ⟨by omega, by omega, by omega, by omega⟩)
          have k7 : IntKind.i64.wrap (r0 + r1) = r0 + r1 := by rw [IntKind.wrap_i64]; omega
          have b1n : 0 ≤ r0 := by omega
          have b2n : ¬ 1099511627776 < r0 := by omega
          have b3n : 0 ≤ r1 := by omega
          have b4n : ¬ 1099511627776 < r1 := by omega
          by_cases c1 : 0 ≤ w0
          · have HC1 := Lib.hid c1
            have c1n : ¬ w0 < 0 := by omega
            go_wp2_with fail
            have hltj := HLT.out
            go_roundw
            case rel => exact ⟨j + 1, w0, w1, by omega, by go_num, Lib.hid (HBK.out.alloc _), HW1, Lib.hid (by rw [firstI_step (p := hasB at_) HK.out, ← HW0.out, if_pos HC1.out]), HOKS, Lib.hid (HCK.out.alloc _)⟩
            case measure => simp [intOf]; omega
          · have c1n : w0 < 0 := by omega
            have HC1 : Hid (w0 < 0) := Lib.hid c1n
            have c2n : w1 < 0 := by have := HW1.out; omega
            by_cases h3 : r0 ≤ at_
            · by_cases h4 : at_ < r0 + r1
              · have HH : Hid (hasB at_ (r0, r1) = true) := Lib.hid (by simp [hasB]; omega)
                have HBS : Hid (Blk ((wr.alloc (.cells #[.int .i64 r0, .int .i64 r1] 58)).setCell ⟨W.heap.size + 1, 0, none⟩ (.int .i64 j)) (W.heap.size + 1) #[.int .i64 j, .int .i64 w1] 62) := Lib.hid ((HBK.out.alloc _).set 0 (.int .i64 j))
                go_wp2_with fail
                have hltj := HLT.out
                go_roundw
                case rel => exact ⟨j + 1, (j : Int), w1, by omega, by go_num, Lib.hid HBS.out, HW1, Lib.hid (by rw [firstI_step (p := hasB at_) HK.out, ← HW0.out, if_neg (by have := HC1.out; omega), if_pos HH.out]), HOKS, Lib.hid ((HCK.out.alloc _).setCell (p := ⟨W.heap.size + 1, 0, none⟩) (.inr (by simp)) _)⟩
                case measure => simp [intOf]; omega
              · have HH : Hid (hasB at_ (r0, r1) = false) := Lib.hid (by simp [hasB]; omega)
                go_wp2_with fail
                have hltj := HLT.out
                go_roundw
                case rel => exact ⟨j + 1, w0, w1, by omega, by go_num, Lib.hid (HBK.out.alloc _), HW1, Lib.hid (by have h0 := firstI_neg (p := hasB at_) (rs := rs.take j) (by rw [← HW0.out]; exact HC1.out); rw [firstI_step (p := hasB at_) HK.out, ← HW0.out, if_neg (by have := HC1.out; omega), if_neg (by simp [HH.out])]; rw [HW0.out, h0]), HOKS, Lib.hid (HCK.out.alloc _)⟩
                case measure => simp [intOf]; omega
            · have HH : Hid (hasB at_ (r0, r1) = false) := Lib.hid (by simp [hasB]; omega)
              go_wp2_with fail
              have hltj := HLT.out
              go_roundw
              case rel => exact ⟨j + 1, w0, w1, by omega, by go_num, Lib.hid (HBK.out.alloc _), HW1, Lib.hid (by have h0 := firstI_neg (p := hasB at_) (rs := rs.take j) (by rw [← HW0.out]; exact HC1.out); rw [firstI_step (p := hasB at_) HK.out, ← HW0.out, if_neg (by have := HC1.out; omega), if_neg (by simp [HH.out])]; rw [HW0.out, h0]), HOKS, Lib.hid (HCK.out.alloc _)⟩
              case measure => simp [intOf]; omega
        · obtain rfl : rs.length = j := by omega
          clear hlt hj
          go_wp2_with fail
          go_roundw
          case rel => exact ⟨1, w0, w1, .inr (.inl rfl), rfl, HBK, Lib.hid ⟨⟨by rw [HW0.out, List.take_length], HW1.out⟩, by have := HOK.out; rwa [List.take_length] at this⟩, HCK⟩
          case measure => simp [intOf]
    · have HOKR : Hid (∀ r ∈ rs, okR r) := Lib.hid HWK.out.2
      go_wp2_with fail
      go_loopw [35] (fun i wr => ∃ (j : Nat) (w0 w1 : Int), j ≤ qs.length ∧ i = .int .i64 j ∧ Hid (Blk wr (W.heap.size + 1) #[.int .i64 w0, .int .i64 w1] 62) ∧ Hid (w0 = firstI (hasB at_) rs) ∧ Hid (w1 = if 0 ≤ w0 then -1 else firstI (hasB at_) (qs.take j)) ∧ Hid (∀ r ∈ qs.take j, okR r) ∧ Hid (Chg [] (W.alloc (.cells #[.slice a rs.length c, .slice a2 qs.length c2, .int .i64 sz] 53)) wr)) (fun i _ => qs.length - (intOf i).toNat)
      case atStart => exact ⟨0, _, _, Nat.zero_le _, rfl, HBK, Lib.hid HWK.out.1.1, Lib.hid (by rw [HWK.out.1.2]; simp [firstI]), Lib.hid (by simp), HCK⟩
      case round =>
        clear HBK HWK HCK
        obtain ⟨j, w0, w1, hj, rfl, HBK, HW0, HW1, HOK, HCK⟩ := hrel
        by_cases hlt : j < qs.length
        · have HLT := Lib.hid hlt
          have g1 := HX2.out j hlt
          obtain ⟨⟨r0, r1⟩, hrk⟩ : ∃ r, qs[j]? = some r := ⟨_, List.getElem?_eq_getElem hlt⟩
          have q0 := (HCA.out.trans HCK.out).keep (HE2.out (j * 2 + 0) _ (by rw [flatMap_get rcells 2 (fun _ => rfl) qs j 0 (by decide) _ hrk]; rfl)) (by simp)
          have q1 := (HCA.out.trans HCK.out).keep (HE2.out (j * 2 + 1) _ (by rw [flatMap_get rcells 2 (fun _ => rfl) qs j 1 (by decide) _ hrk]; rfl)) (by simp)
          rw [Nat.add_zero] at q0
          rw [← Nat.add_assoc] at q1
          have HK := Lib.hid hrk
          have HRI := Lib.hid (HI2.out _ (List.mem_of_getElem? hrk))
          have hj1000 : (j : Int) < 100 := by have := HL.out; omega
          have k8 : IntKind.i64.wrap ((j : Int) + 1) = (j : Int) + 1 := by rw [IntKind.wrap_i64]; omega
          have HBA : Hid (Blk (wr.alloc (.cells #[.int .i64 r0, .int .i64 r1] 58)) (W.heap.size + 1) #[.int .i64 w0, .int .i64 w1] 62) := Lib.hid (HBK.out.alloc _)
          have e0 := HBA.out.cell (o := 0) rfl
          have e1 := HBA.out.cell (o := 1) rfl
          have f0 := HBA.out.free 1
          clear hrk hj hlt
          by_cases b1 : r0 < 0
          · go_wp2_with (go_at_call 21; refine (lay.awake_any _).mono ?_; rintro e wz ⟨rfl, hz⟩; have HZ := Lib.hid hz; clear hz)
            go_ret
            exact ⟨rfl, (HCA.out.trans ((HCK.out.alloc _).trans HZ.out)).below⟩
          by_cases b2 : r0 > 1099511627776
          · go_wp2_with (go_at_call 21; refine (lay.awake_any _).mono ?_; rintro e wz ⟨rfl, hz⟩; have HZ := Lib.hid hz; clear hz)
            go_ret
            exact ⟨rfl, (HCA.out.trans ((HCK.out.alloc _).trans HZ.out)).below⟩
          by_cases b3 : r1 < 0
          · go_wp2_with (go_at_call 21; refine (lay.awake_any _).mono ?_; rintro e wz ⟨rfl, hz⟩; have HZ := Lib.hid hz; clear hz)
            go_ret
            exact ⟨rfl, (HCA.out.trans ((HCK.out.alloc _).trans HZ.out)).below⟩
          by_cases b4 : r1 > 1099511627776
          · go_wp2_with (go_at_call 21; refine (lay.awake_any _).mono ?_; rintro e wz ⟨rfl, hz⟩; have HZ := Lib.hid hz; clear hz)
            go_ret
            exact ⟨rfl, (HCA.out.trans ((HCK.out.alloc _).trans HZ.out)).below⟩
          have HOKS : Hid (∀ r ∈ qs.take (j + 1), okR r) := Lib.hid (take_ok HOK.out HK.out ⟨by omega, by omega, by omega, by omega⟩)
          have k7 : IntKind.i64.wrap (r0 + r1) = r0 + r1 := by rw [IntKind.wrap_i64]; omega
          have b1n : 0 ≤ r0 := by omega
          have b2n : ¬ 1099511627776 < r0 := by omega
          have b3n : 0 ≤ r1 := by omega
          have b4n : ¬ 1099511627776 < r1 := by omega
          by_cases c1 : 0 ≤ w0
          · have HC1 := Lib.hid c1
            have c1n : ¬ w0 < 0 := by omega
            go_wp2_with fail
            have hltj := HLT.out
            go_roundw
            case rel => exact ⟨j + 1, w0, w1, by omega, by go_num, Lib.hid (HBK.out.alloc _), HW0, Lib.hid (by rw [if_pos HC1.out]; have := HW1.out; rwa [if_pos HC1.out] at this), HOKS, Lib.hid (HCK.out.alloc _)⟩
            case measure => simp [intOf]; omega
          · have c1n : w0 < 0 := by omega
            have HC1 : Hid (w0 < 0) := Lib.hid c1n
            by_cases c2 : 0 ≤ w1
            · have HC2 := Lib.hid c2
              have c2n : ¬ w1 < 0 := by omega
              go_wp2_with fail
              have hltj := HLT.out
              go_roundw
              case rel => exact ⟨j + 1, w0, w1, by omega, by go_num, Lib.hid (HBK.out.alloc _), HW0, Lib.hid (by have h0 := HW1.out; rw [if_neg (by have := HC1.out; omega)] at h0 ⊢; rw [firstI_step (p := hasB at_) HK.out, ← h0, if_pos HC2.out]), HOKS, Lib.hid (HCK.out.alloc _)⟩
              case measure => simp [intOf]; omega
            · have c2n : w1 < 0 := by omega
              have HC2 : Hid (w1 < 0) := Lib.hid c2n
              by_cases h3 : r0 ≤ at_
              · by_cases h4 : at_ < r0 + r1
                · have HH : Hid (hasB at_ (r0, r1) = true) := Lib.hid (by simp [hasB]; omega)
                  have HBS : Hid (Blk ((wr.alloc (.cells #[.int .i64 r0, .int .i64 r1] 58)).setCell ⟨W.heap.size + 1, 1, none⟩ (.int .i64 j)) (W.heap.size + 1) #[.int .i64 w0, .int .i64 j] 62) := Lib.hid ((HBK.out.alloc _).set 1 (.int .i64 j))
                  go_wp2_with fail
                  have hltj := HLT.out
                  go_roundw
                  case rel => exact ⟨j + 1, w0, (j : Int), by omega, by go_num, Lib.hid HBS.out, HW0, Lib.hid (by have h0 := HW1.out; rw [if_neg (by have := HC1.out; omega)] at h0 ⊢; rw [firstI_step (p := hasB at_) HK.out, ← h0, if_neg (by have := HC2.out; omega), if_pos HH.out]), HOKS, Lib.hid ((HCK.out.alloc _).setCell (p := ⟨W.heap.size + 1, 1, none⟩) (.inr (by simp)) _)⟩
                  case measure => simp [intOf]; omega
                · have HH : Hid (hasB at_ (r0, r1) = false) := Lib.hid (by simp [hasB]; omega)
                  go_wp2_with fail
                  have hltj := HLT.out
                  go_roundw
                  case rel => exact ⟨j + 1, w0, w1, by omega, by go_num, Lib.hid (HBK.out.alloc _), HW0, Lib.hid (by have h0 := HW1.out; rw [if_neg (by have := HC1.out; omega)] at h0 ⊢; have h3 := firstI_neg (p := hasB at_) (rs := qs.take j) (by rw [← h0]; exact HC2.out); rw [firstI_step (p := hasB at_) HK.out, ← h0, if_neg (by have := HC2.out; omega), if_neg (by simp [HH.out])]; rw [h0, h3]), HOKS, Lib.hid (HCK.out.alloc _)⟩
                  case measure => simp [intOf]; omega
              · have HH : Hid (hasB at_ (r0, r1) = false) := Lib.hid (by simp [hasB]; omega)
                go_wp2_with fail
                have hltj := HLT.out
                go_roundw
                case rel => exact ⟨j + 1, w0, w1, by omega, by go_num, Lib.hid (HBK.out.alloc _), HW0, Lib.hid (by have h0 := HW1.out; rw [if_neg (by have := HC1.out; omega)] at h0 ⊢; have h3 := firstI_neg (p := hasB at_) (rs := qs.take j) (by rw [← h0]; exact HC2.out); rw [firstI_step (p := hasB at_) HK.out, ← h0, if_neg (by have := HC2.out; omega), if_neg (by simp [HH.out])]; rw [h0, h3]), HOKS, Lib.hid (HCK.out.alloc _)⟩
                case measure => simp [intOf]; omega
        · obtain rfl : qs.length = j := by omega
          clear hlt hj
          go_wp2_with fail
          go_roundw
          case rel => exact ⟨2, w0, w1, .inr (.inr rfl), rfl, HBK, Lib.hid ⟨⟨HW0.out, by have := HW1.out; rwa [List.take_length] at this⟩, HOKR.out, by have := HOK.out; rwa [List.take_length] at this⟩, HCK⟩
          case measure => simp [intOf]
    · have hown : ownerI at_ rs qs = (w0, w1) := by rw [owner_eq HWK.out.2.1 HWK.out.2.2, HWK.out.1.1, HWK.out.1.2, HWK.out.1.1]
      have HOW : Hid (Calls Try.prog 25 #[.agg #[.slice a rs.length c, .slice a2 qs.length c2, .int .i64 sz], .int .i64 at_] wo fun e W' => e = .returned (.tuple #[.int .i64 w0, .int .i64 w1]) ∧ Chg [] wo W') := Lib.hid (by have := Owner_any a rs.length c a2 qs.length c2 sz rs qs at_ wo (HR1.out.chg (HCA.out.trans HCK.out)) (HR2.out.chg (HCA.out.trans HCK.out)) (by have := HL.out; omega) (by have := HL.out; omega) HA.out (fun r hr => (HWK.out.2.1 r hr).1) (fun r hr => (HWK.out.2.2 r hr).1); rwa [hown] at this)
      have HB0 : Hid (Blk wo W.heap.size #[.slice a rs.length c, .slice a2 qs.length c2, .int .i64 sz] 53) := Lib.hid ((Blk.new W _ _).keep HCK.out (by simp))
      clear hown
      have e0 := HB0.out.cell (o := 0) rfl
      have e1 := HB0.out.cell (o := 1) rfl
      have e2 := HB0.out.cell (o := 2) rfl
      go_wp2_with (first | (go_at_call 21; refine (lay.awake_any _).mono ?_; rintro e wz ⟨rfl, hz⟩; have HZ := Lib.hid hz; clear hz) | (go_at_call 25; refine HOW.out.mono ?_; rintro e w9 ⟨rfl, hc⟩; have HC9 := Lib.hid (HCK.out.trans hc); have HB9 := Lib.hid (HBK.out.keep hc (by simp)); have b0 := HB9.out.cell (o := 0) rfl; have b1 := HB9.out.cell (o := 1) rfl; clear hc))
      go_ret
      exact ⟨rfl, (HCA.out.trans (HC9.out.trans HZ.out)).below⟩
theorem big (a : Option Addr) (c : Nat) (a2 : Option Addr) (c2 : Nat) (sz : Int) (rs qs : List (Int × Int)) (at_ : Int) (W : World) (h : ¬ (rs.length ≤ 60 ∧ qs.length ≤ 60)) :
    Calls Try.prog 6 #[.agg #[.slice a rs.length c, .slice a2 qs.length c2, .int .i64 sz], .int .i64 at_] W fun e W' => e = .returned (.bool true) ∧ Below W.heap.size W W' := by
  by_cases h1 : rs.length ≤ 60
  · have h2 : (60 : Int) < qs.length := by omega
    have h3 : ¬ ((60 : Int) < rs.length) := by omega
    clear h h1
    go_enter Try.func6, Try.ntmps6
    go_wp2_with (go_at_call 21; refine (lay.awake_any _).mono ?_; rintro e wz ⟨rfl, hz⟩; have HZ := Lib.hid hz; clear hz)
    go_ret
    exact ⟨rfl, (((Chg.refl _ _).alloc _).trans HZ.out).below⟩
  · have h2 : (60 : Int) < rs.length := by omega
    clear h h1
    go_enter Try.func6, Try.ntmps6
    go_wp2_with (go_at_call 21; refine (lay.awake_any _).mono ?_; rintro e wz ⟨rfl, hz⟩; have HZ := Lib.hid hz; clear hz)
    go_ret
    exact ⟨rfl, (((Chg.refl _ _).alloc _).trans HZ.out).below⟩
theorem own : ownKnob Try.prog.godebug = none := by kernel_rfl
theorem laidOut : laidOutB Try.prog = true := by kernel_rfl

/-- The walk: the law returns true, and nothing that was there has turned. -/
theorem walk (w : World) (cs0 : Array Value) (hs0 : cs0.size = Try.prog.cellsOf 53) (o0 : kit.Opens Try.prog w 9 53 cs0.toList) (x1 : Int) (w1 : (Lit.int .i64 x1).wf = true) :
    Calls Try.prog 6 #[.agg cs0, .int .i64 x1] w fun e w' => e = .returned (.bool true) ∧ Below w.heap.size w w' := by
  obtain ⟨a, l, c, rs, a2, l2, c2, qs, sz, hcs, hr, hq, hsz⟩ := layout_open (n := 4) o0
  have hcs2 : cs0 = #[.slice a l c, .slice a2 l2 c2, .int .i64 sz] := by
    apply Array.toList_inj.1; rw [hcs]
  subst hcs2
  obtain rfl : l = rs.length := by obtain ⟨_, _, he, _⟩ := reads_slice hr.1; simp at he; exact he.2.1
  obtain rfl : l2 = qs.length := by obtain ⟨_, _, he, _⟩ := reads_slice hq.1; simp at he; exact he.2.1
  by_cases h : rs.length ≤ 60 ∧ qs.length ≤ 60
  · exact main a c a2 c2 sz rs qs x1 w hr hq h (wf_i64 w1).2
  · exact big a c a2 c2 sz rs qs x1 w h

set_option maxRecDepth 100000 in
theorem lifted (os : Os) (started : os.Started) (H : Type) (enc : TypeId × Value → H) :
    ReturnsInHanded {} Try.checked os 6 .any (Rows.layoutAnySpec.pre6 enc Try.prog Try.f6 Rows.layoutAnyRow.domain false) (Rows.layoutAnySpec.post enc Try.prog Try.f6 false true false false) := by
  refine returnsInHanded_of_change (C := Try.checked) own started (by kernel_rfl) Try.func6
    (ChangeSpec.witness6 (enc := enc) (C := Try.checked) false ⟨#[], #[.agg #[.slice none 0 0, .slice none 0 0, .int .i64 0], .int .i64 0], []⟩ 8 (by kernel_rfl) (by kernel_rfl) (by kernel_rfl) (by kernel_rfl)) ?_
  intro W base args ds gs before hval0 hW hcnd _
  have hval : ∀ (j : Nat) t v, Try.f6.params[j]? = some t → args[j]? = some v → Value.okWide Try.prog W .any base t v := hval0
  have hW' := hW
  obtain ⟨p, q, hA0, hV, rfl, hfz, hnd⟩ := hW
  have hA : DataW.TrodAll enc Try.prog W 0 (fun _ => true) true Try.f6.params.toList args.toList ds p := hA0
  rw [Try.params6] at hA hval
  obtain ⟨v0, vs0, d0, ds0, p0, q0, hargs, rfl, rfl, h0, r0⟩ := trodAll_cons hA
  obtain ⟨v1, vs1, d1, ds1, p1, q1, rfl, rfl, rfl, h1, r1⟩ := trodAll_cons r0
  obtain ⟨rfl, rfl, rfl⟩ := trodAll_nil r1
  obtain rfl : args = #[v0, v1] := by cases args; simp_all
  obtain ⟨rfl, rfl⟩ := trodVars_none hV
  have k0 := h0
  have lt0 : ∀ x ∈ p0, x.block < W.heap.size := by obtain ⟨m, hm⟩ := k0; exact DataW.trod_lt m _ _ _ hm
  have k1 := h1
  have lt1 : ∀ x ∈ p1, x.block < W.heap.size := by obtain ⟨m, hm⟩ := k1; exact DataW.trod_lt m _ _ _ hm
  obtain ⟨cs0, rfl, hs0⟩ := okWide_struct Try.underlying53 (hval 0 53 v0 rfl rfl)
  have o0 : kit.Opens Try.prog W 9 53 cs0.toList := by simpa [Value.cells] using kit.Trod_opens 9 k0
  obtain ⟨x1, rfl, _, _, w1⟩ := open_int Try.underlying3 (hval 1 3 v1 rfl rfl) h1
  clear hA0 hval0
  refine (walk W cs0 hs0 o0 x1 w1).mono fun e W' ⟨he, bel⟩ => ?_
  subst he
  exact ⟨_, rfl, _, _, _, [], _, [], hW', trodAll_mk1 (shut_bool Try.underlying4 _), (trodAll_cons_mk (Below.trod laidOut (by kernel_rfl) (of_decide_eq_true (by kernel_rfl)) k0 bel lt0) (trodAll_cons_mk (Below.trod laidOut (by kernel_rfl) (of_decide_eq_true (by kernel_rfl)) k1 bel lt1) trodAll_mk0)), rfl, bel.frame _, fun h => by cases h⟩

theorem over : Rows.layoutAnyRow.holds Try.pinned (OpenSpec.ofChange Rows.layoutAnySpec) :=
  OpenClaim.holds_of_wide 6 Try.f6 rfl rfl rfl rfl rfl rfl rfl ⟨rfl, rfl, rfl, rfl, rfl⟩ rfl rfl rfl rfl rfl (by kernel_rfl) Try.func6 (by kernel_rfl)
    (of_decide_eq_true (by kernel_rfl)) (by unfold Func.isWrapper; first | (rw [if_pos (by decide +kernel)]; kernel_rfl) | (rw [if_neg (by decide +kernel)]; exact ⟨rfl, rfl⟩))
    (fun os started H enc _ => lifted os started H enc)

/-- The statement. -/
theorem proved : Rows.LayoutAnySaid := over
end Go.Proofs.Ytjplamoofkcojaa.layoutAny
