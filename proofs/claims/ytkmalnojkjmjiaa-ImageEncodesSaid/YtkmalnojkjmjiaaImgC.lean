/- Images: has a system's every number room: the reference's way. -/
import Derived.Test.YtkmalnojkjmjiaaImgB
namespace Go.Proofs.Ytkmalnojkjmjiaa.img
open Go Go.RowKit Go.Proofs.Ytkmalnojkjmjiaa.kit Go.Proofs.Ytkmalnojkjmjiaa.obj Go.Proofs.Ytkmalnojkjmjiaa.mem Go.Proofs.Ytkmalnojkjmjiaa.lay Go.Proofs.Ytkmalnojkjmjiaa.codec
set_option linter.unusedVariables false
set_option linter.unusedSimpArgs false
set_option maxRecDepth 20000
def IsB (b : Bool) (X : Prop) : Prop := b = true ↔ X
theorem and2 {a b : Bool} : (a && b) = true ↔ a = true ∧ b = true := Bool.and_eq_true_iff
theorem take_iff {R : Type} {P : R → Prop} {l : List R} {j : Nat} {t : R} (h : l[j]? = some t) : (∀ r ∈ l.take (j + 1), P r) ↔ (∀ r ∈ l.take j, P r) ∧ P t := by
  have hj := List.getElem?_eq_some_iff.1 h
  rw [List.take_succ_eq_append_getElem hj.1, hj.2]
  constructor
  · intro h9; exact ⟨fun r hr => h9 r (by simp [hr]), h9 t (by simp)⟩
  · rintro ⟨h1, h2⟩ r hr
    rcases List.mem_append.1 hr with h3 | h3
    · exact h1 r h3
    · simp at h3; subst h3; exact h2
theorem regT {A B a b c d e f g C : Prop} : ((A ∧ B) ∧ (a ∧ b ∧ c ∧ d ∧ e ∧ f ∧ g)) ∧ C ↔ A ∧ B ∧ ((a ∧ b ∧ f ∧ g) ∧ (c ∧ d ∧ e) ∧ C) :=
  ⟨fun ⟨⟨⟨h1, h2⟩, h3, h4, h5, h6, h7, h8, h9⟩, h10⟩ => ⟨h1, h2, ⟨h3, h4, h8, h9⟩, ⟨h5, h6, h7⟩, h10⟩, fun ⟨h1, h2, ⟨h3, h4, h8, h9⟩, ⟨h5, h6, h7⟩, h10⟩ => ⟨⟨⟨h1, h2⟩, h3, h4, h5, h6, h7, h8, h9⟩, h10⟩⟩
theorem regO {A B H C : Prop} : ((A ∧ B) ∧ H) ∧ C ↔ A ∧ B ∧ (H ∧ C) :=
  ⟨fun ⟨⟨⟨h1, h2⟩, h3⟩, h4⟩ => ⟨h1, h2, h3, h4⟩, fun ⟨h1, h2, h3, h4⟩ => ⟨⟨⟨h1, h2⟩, h3⟩, h4⟩⟩
set_option maxHeartbeats 16000000 in
theorem Room_any (ta : Option Addr) (tc : Nat) (oa : Option Addr) (oc : Nat) (ts : List DT) (os : List DO) (W : World) (hT : ReadsDT W (.slice ta ts.length tc) ts) (hO : ReadsDO W (.slice oa os.length oc) os) (hl : ts.length ≤ 1000 ∧ os.length ≤ 1000) (hcl : (∀ d ∈ ts, d.code.length ≤ 1000) ∧ ∀ d ∈ os, d.ini.length ≤ 1000 ∧ d.rds.length ≤ 1000) :
    Calls Try.prog 35 #[.agg #[.slice ta ts.length tc, .slice oa os.length oc]] W fun e W' => e = .returned (.bool (decide (fitS (ts.map DT.p) (os.map DO.p)))) ∧ Chg [] W W' := by
  obtain ⟨R, hR⟩ : ∃ R, decide (fitS (ts.map DT.p) (os.map DO.p)) = R := ⟨_, rfl⟩
  have HR := Lib.hid hR
  rw [hR]
  have hT1 := hT.1.1
  have hO1 := hO.1
  unfold ReadsO at hO1
  rw [rowsT_map, List.length_map] at hT1
  rw [rowsO_map, List.length_map] at hO1
  obtain ⟨b1, o1, hx1, hc1, -⟩ := reads_index (P := Try.prog) Try.underlying24 szTask hT1
  obtain ⟨b2, o2, hx2, hc2, -⟩ := reads_index (P := Try.prog) Try.underlying25 szObj hO1
  have HX1 := Lib.hid hx1
  have HC1 := Lib.hid hc1
  have HX2 := Lib.hid hx2
  have HC2 := Lib.hid hc2
  have HTD := Lib.hid hT.2
  have HOD := Lib.hid hO.2
  have HL : Hid ((ts.length : Int) ≤ 1000 ∧ (os.length : Int) ≤ 1000) := Lib.hid (by omega)
  have HCL := Lib.hid hcl
  have HCA : Hid (Chg [] W (W.alloc (.cells #[.slice ta ts.length tc, .slice oa os.length oc] 27))) := Lib.hid ((Chg.refl _ _).alloc _)
  have HBX : Hid (Blk (W.alloc (.cells #[.slice ta ts.length tc, .slice oa os.length oc] 27)) W.heap.size #[.slice ta ts.length tc, .slice oa os.length oc] 27) := Lib.hid (Blk.new W _ _)
  clear hT hO hT1 hO1 hx1 hx2 hc1 hc2 hR hl hcl
  go_enter Try.func35, Try.ntmps35
  obtain ⟨t1, ht1⟩ : ∃ b, decide (fit1 (ts.length : Int)) = b := ⟨_, rfl⟩
  have HFt1 : Hid (∀ V, Calls Try.prog 50 #[.int .i64 (ts.length : Int)] V fun e W' => e = .returned (.bool t1) ∧ V = W') := Lib.hid (fun V => by rw [← ht1]; exact small_any _ V)
  have Ht1 : Hid (t1 = true ↔ fit1 (ts.length : Int)) := Lib.hid (by rw [← ht1]; exact decide_eq_true_iff)
  clear ht1
  obtain ⟨t2, ht2⟩ : ∃ b, decide (fit1 (os.length : Int)) = b := ⟨_, rfl⟩
  have HFt2 : Hid (∀ V, Calls Try.prog 50 #[.int .i64 (os.length : Int)] V fun e W' => e = .returned (.bool t2) ∧ V = W') := Lib.hid (fun V => by rw [← ht2]; exact small_any _ V)
  have Ht2 : Hid (t2 = true ↔ fit1 (os.length : Int)) := Lib.hid (by rw [← ht2]; exact decide_eq_true_iff)
  clear ht2
  go_upto_region 1 with fail
  go_cut [3] from 12 to 21 (fun cv wc => cv = .bool (t1 && t2) ∧ wc = (W.alloc (.cells #[.slice ta ts.length tc, .slice oa os.length oc] 27)))
  case first =>
    cases t1
    · go_wp2_with (go_at_call 50; (with_reducible refine (HFt1.out _).mono ?_); rintro e wx ⟨rfl, rfl⟩)
      go_meet
      case rel => exact ⟨rfl, rfl⟩
    cases t2
    · go_wp2_with (first | (go_at_call 50; (with_reducible refine (HFt1.out _).mono ?_); rintro e wx ⟨rfl, rfl⟩) | (go_at_call 50; (with_reducible refine (HFt2.out _).mono ?_); rintro e wx ⟨rfl, rfl⟩))
      go_meet
      case rel => exact ⟨rfl, rfl⟩
    go_wp2_with (first | (go_at_call 50; (with_reducible refine (HFt1.out _).mono ?_); rintro e wx ⟨rfl, rfl⟩) | (go_at_call 50; (with_reducible refine (HFt2.out _).mono ?_); rintro e wx ⟨rfl, rfl⟩))
    go_meet
    case rel => exact ⟨rfl, rfl⟩
  case rest =>
  obtain ⟨rfl, rfl⟩ := hcut
  obtain ⟨T0, hT0⟩ : ∃ T0, (t1 && t2) = T0 := ⟨_, rfl⟩
  have HT0 : Hid (T0 = true ↔ fit1 (ts.length : Int) ∧ fit1 (os.length : Int)) := Lib.hid (by rw [← hT0]; simp only [and2, Ht1.out, Ht2.out])
  rw [hT0]
  clear hT0 HFt1 HFt2 Ht1 Ht2
  go_wp2_with fail
  go_loopw [3, 25] (fun ok i wr => ∃ (j : Nat) (T : Bool), j ≤ ts.length ∧ i = .int .i64 j ∧ ok = .bool T ∧ Hid (T = true ↔ (fit1 (ts.length : Int) ∧ fit1 (os.length : Int)) ∧ ∀ d ∈ ts.take j, d.p.fit) ∧ Hid (Chg [] (W.alloc (.cells #[.slice ta ts.length tc, .slice oa os.length oc] 27)) wr)) (fun _ i _ => ts.length - (intOf i).toNat)
  case atStart => exact ⟨0, T0, Nat.zero_le _, rfl, rfl, Lib.hid (by rw [HT0.out]; simp), Lib.hid (Chg.refl _ _)⟩
  case round =>
    obtain ⟨j, T, hj, rfl, rfl, HG, HJ⟩ := hrel
    obtain ⟨wo, rfl⟩ : ∃ wo : World, wo = wr := ⟨_, rfl⟩
    by_cases hlt : j < ts.length
    · have HLT := Lib.hid hlt
      have g1 := HX1.out j hlt
      obtain ⟨⟨⟨kind, prio, period, offset, deadline, own, ca, cl, cc⟩, code⟩, htk⟩ : ∃ t, ts[j]? = some t := ⟨_, List.getElem?_eq_getElem hlt⟩
      have q0 := (HCA.out.trans HJ.out).keep (HC1.out (j * 7 + 0) _ (by rw [flatMap_get (fun d : DT => d.t.cells) 7 (fun _ => rfl) ts j 0 (by decide) _ htk]; rfl)) (by simp)
      have q1 := (HCA.out.trans HJ.out).keep (HC1.out (j * 7 + 1) _ (by rw [flatMap_get (fun d : DT => d.t.cells) 7 (fun _ => rfl) ts j 1 (by decide) _ htk]; rfl)) (by simp)
      have q2 := (HCA.out.trans HJ.out).keep (HC1.out (j * 7 + 2) _ (by rw [flatMap_get (fun d : DT => d.t.cells) 7 (fun _ => rfl) ts j 2 (by decide) _ htk]; rfl)) (by simp)
      have q3 := (HCA.out.trans HJ.out).keep (HC1.out (j * 7 + 3) _ (by rw [flatMap_get (fun d : DT => d.t.cells) 7 (fun _ => rfl) ts j 3 (by decide) _ htk]; rfl)) (by simp)
      have q4 := (HCA.out.trans HJ.out).keep (HC1.out (j * 7 + 4) _ (by rw [flatMap_get (fun d : DT => d.t.cells) 7 (fun _ => rfl) ts j 4 (by decide) _ htk]; rfl)) (by simp)
      have q5 := (HCA.out.trans HJ.out).keep (HC1.out (j * 7 + 5) _ (by rw [flatMap_get (fun d : DT => d.t.cells) 7 (fun _ => rfl) ts j 5 (by decide) _ htk]; rfl)) (by simp)
      have q6 := (HCA.out.trans HJ.out).keep (HC1.out (j * 7 + 6) _ (by rw [flatMap_get (fun d : DT => d.t.cells) 7 (fun _ => rfl) ts j 6 (by decide) _ htk]; rfl)) (by simp)
      rw [Nat.add_zero] at q0
      rw [← Nat.add_assoc] at q1 q2 q3 q4 q5 q6
      have hDR := HTD.out _ (List.mem_of_getElem? htk)
      obtain rfl : cl = code.length := hDR.len
      have HDR := Lib.hid hDR
      have HCC : Hid (code.length ≤ 1000) := Lib.hid (HCL.out.1 _ (List.mem_of_getElem? htk))
      have HK := Lib.hid htk
      have hj1000 : (j : Int) < 1000 := by have := HL.out; omega
      have k8 : IntKind.i64.wrap ((j : Int) + 1) = (j : Int) + 1 := by rw [IntKind.wrap_i64]; omega
      clear htk hj hlt hDR
      obtain ⟨t1, ht1⟩ : ∃ b, decide (fit1 kind) = b := ⟨_, rfl⟩
      have HFt1 : Hid (∀ V, Calls Try.prog 50 #[.int .i64 kind] V fun e W' => e = .returned (.bool t1) ∧ V = W') := Lib.hid (fun V => by rw [← ht1]; exact small_any _ V)
      have Ht1 : Hid (t1 = true ↔ fit1 kind) := Lib.hid (by rw [← ht1]; exact decide_eq_true_iff)
      clear ht1
      obtain ⟨t2, ht2⟩ : ∃ b, decide (fit1 prio) = b := ⟨_, rfl⟩
      have HFt2 : Hid (∀ V, Calls Try.prog 50 #[.int .i64 prio] V fun e W' => e = .returned (.bool t2) ∧ V = W') := Lib.hid (fun V => by rw [← ht2]; exact small_any _ V)
      have Ht2 : Hid (t2 = true ↔ fit1 prio) := Lib.hid (by rw [← ht2]; exact decide_eq_true_iff)
      clear ht2
      obtain ⟨t3, ht3⟩ : ∃ b, decide (fit4 period) = b := ⟨_, rfl⟩
      have HFt3 : Hid (∀ V, Calls Try.prog 51 #[.int .i64 period] V fun e W' => e = .returned (.bool t3) ∧ V = W') := Lib.hid (fun V => by rw [← ht3]; exact large_any _ V)
      have Ht3 : Hid (t3 = true ↔ fit4 period) := Lib.hid (by rw [← ht3]; exact decide_eq_true_iff)
      clear ht3
      obtain ⟨t4, ht4⟩ : ∃ b, decide (fit4 offset) = b := ⟨_, rfl⟩
      have HFt4 : Hid (∀ V, Calls Try.prog 51 #[.int .i64 offset] V fun e W' => e = .returned (.bool t4) ∧ V = W') := Lib.hid (fun V => by rw [← ht4]; exact large_any _ V)
      have Ht4 : Hid (t4 = true ↔ fit4 offset) := Lib.hid (by rw [← ht4]; exact decide_eq_true_iff)
      clear ht4
      obtain ⟨t5, ht5⟩ : ∃ b, decide (fit4 deadline) = b := ⟨_, rfl⟩
      have HFt5 : Hid (∀ V, Calls Try.prog 51 #[.int .i64 deadline] V fun e W' => e = .returned (.bool t5) ∧ V = W') := Lib.hid (fun V => by rw [← ht5]; exact large_any _ V)
      have Ht5 : Hid (t5 = true ↔ fit4 deadline) := Lib.hid (by rw [← ht5]; exact decide_eq_true_iff)
      clear ht5
      obtain ⟨t6, ht6⟩ : ∃ b, decide (fit1 own) = b := ⟨_, rfl⟩
      have HFt6 : Hid (∀ V, Calls Try.prog 50 #[.int .i64 own] V fun e W' => e = .returned (.bool t6) ∧ V = W') := Lib.hid (fun V => by rw [← ht6]; exact small_any _ V)
      have Ht6 : Hid (t6 = true ↔ fit1 own) := Lib.hid (by rw [← ht6]; exact decide_eq_true_iff)
      clear ht6
      obtain ⟨t7, ht7⟩ : ∃ b, decide (fit1 (code.length : Int)) = b := ⟨_, rfl⟩
      have HFt7 : Hid (∀ V, Calls Try.prog 50 #[.int .i64 (code.length : Int)] V fun e W' => e = .returned (.bool t7) ∧ V = W') := Lib.hid (fun V => by rw [← ht7]; exact small_any _ V)
      have Ht7 : Hid (t7 = true ↔ fit1 (code.length : Int)) := Lib.hid (by rw [← ht7]; exact decide_eq_true_iff)
      clear ht7
      go_upto_region 5 with fail
      go_cut [3] from 26 to 65 (fun cv wc => cv = .bool (T && (t1 && (t2 && (t3 && (t4 && (t5 && (t6 && t7))))))) ∧ wc = wo.alloc (.cells #[.int .i64 kind, .int .i64 prio, .int .i64 period, .int .i64 offset, .int .i64 deadline, .int .i64 own, .slice ca code.length cc] 41))
      case first =>
        cases T
        · go_wp2_with fail
          go_meet
          case rel => exact ⟨rfl, rfl⟩
        cases t1
        · go_wp2_with (go_at_call 50; (with_reducible refine (HFt1.out _).mono ?_); rintro e wx ⟨rfl, rfl⟩)
          go_meet
          case rel => exact ⟨rfl, rfl⟩
        cases t2
        · go_wp2_with (first | (go_at_call 50; (with_reducible refine (HFt1.out _).mono ?_); rintro e wx ⟨rfl, rfl⟩) | (go_at_call 50; (with_reducible refine (HFt2.out _).mono ?_); rintro e wx ⟨rfl, rfl⟩))
          go_meet
          case rel => exact ⟨rfl, rfl⟩
        cases t3
        · go_wp2_with (first | (go_at_call 50; (with_reducible refine (HFt1.out _).mono ?_); rintro e wx ⟨rfl, rfl⟩) | (go_at_call 50; (with_reducible refine (HFt2.out _).mono ?_); rintro e wx ⟨rfl, rfl⟩) | (go_at_call 51; (with_reducible refine (HFt3.out _).mono ?_); rintro e wx ⟨rfl, rfl⟩))
          go_meet
          case rel => exact ⟨rfl, rfl⟩
        cases t4
        · go_wp2_with (first | (go_at_call 50; (with_reducible refine (HFt1.out _).mono ?_); rintro e wx ⟨rfl, rfl⟩) | (go_at_call 50; (with_reducible refine (HFt2.out _).mono ?_); rintro e wx ⟨rfl, rfl⟩) | (go_at_call 51; (with_reducible refine (HFt3.out _).mono ?_); rintro e wx ⟨rfl, rfl⟩) | (go_at_call 51; (with_reducible refine (HFt4.out _).mono ?_); rintro e wx ⟨rfl, rfl⟩))
          go_meet
          case rel => exact ⟨rfl, rfl⟩
        cases t5
        · go_wp2_with (first | (go_at_call 50; (with_reducible refine (HFt1.out _).mono ?_); rintro e wx ⟨rfl, rfl⟩) | (go_at_call 50; (with_reducible refine (HFt2.out _).mono ?_); rintro e wx ⟨rfl, rfl⟩) | (go_at_call 51; (with_reducible refine (HFt3.out _).mono ?_); rintro e wx ⟨rfl, rfl⟩) | (go_at_call 51; (with_reducible refine (HFt4.out _).mono ?_); rintro e wx ⟨rfl, rfl⟩) | (go_at_call 51; (with_reducible refine (HFt5.out _).mono ?_); rintro e wx ⟨rfl, rfl⟩))
          go_meet
          case rel => exact ⟨rfl, rfl⟩
        cases t6
        · go_wp2_with (first | (go_at_call 50; (with_reducible refine (HFt1.out _).mono ?_); rintro e wx ⟨rfl, rfl⟩) | (go_at_call 50; (with_reducible refine (HFt2.out _).mono ?_); rintro e wx ⟨rfl, rfl⟩) | (go_at_call 51; (with_reducible refine (HFt3.out _).mono ?_); rintro e wx ⟨rfl, rfl⟩) | (go_at_call 51; (with_reducible refine (HFt4.out _).mono ?_); rintro e wx ⟨rfl, rfl⟩) | (go_at_call 51; (with_reducible refine (HFt5.out _).mono ?_); rintro e wx ⟨rfl, rfl⟩) | (go_at_call 50; (with_reducible refine (HFt6.out _).mono ?_); rintro e wx ⟨rfl, rfl⟩))
          go_meet
          case rel => exact ⟨rfl, rfl⟩
        cases t7
        · go_wp2_with (first | (go_at_call 50; (with_reducible refine (HFt1.out _).mono ?_); rintro e wx ⟨rfl, rfl⟩) | (go_at_call 50; (with_reducible refine (HFt2.out _).mono ?_); rintro e wx ⟨rfl, rfl⟩) | (go_at_call 51; (with_reducible refine (HFt3.out _).mono ?_); rintro e wx ⟨rfl, rfl⟩) | (go_at_call 51; (with_reducible refine (HFt4.out _).mono ?_); rintro e wx ⟨rfl, rfl⟩) | (go_at_call 51; (with_reducible refine (HFt5.out _).mono ?_); rintro e wx ⟨rfl, rfl⟩) | (go_at_call 50; (with_reducible refine (HFt6.out _).mono ?_); rintro e wx ⟨rfl, rfl⟩) | (go_at_call 50; (with_reducible refine (HFt7.out _).mono ?_); rintro e wx ⟨rfl, rfl⟩))
          go_meet
          case rel => exact ⟨rfl, rfl⟩
        go_wp2_with (first | (go_at_call 50; (with_reducible refine (HFt1.out _).mono ?_); rintro e wx ⟨rfl, rfl⟩) | (go_at_call 50; (with_reducible refine (HFt2.out _).mono ?_); rintro e wx ⟨rfl, rfl⟩) | (go_at_call 51; (with_reducible refine (HFt3.out _).mono ?_); rintro e wx ⟨rfl, rfl⟩) | (go_at_call 51; (with_reducible refine (HFt4.out _).mono ?_); rintro e wx ⟨rfl, rfl⟩) | (go_at_call 51; (with_reducible refine (HFt5.out _).mono ?_); rintro e wx ⟨rfl, rfl⟩) | (go_at_call 50; (with_reducible refine (HFt6.out _).mono ?_); rintro e wx ⟨rfl, rfl⟩) | (go_at_call 50; (with_reducible refine (HFt7.out _).mono ?_); rintro e wx ⟨rfl, rfl⟩))
        go_meet
        case rel => exact ⟨rfl, rfl⟩
      case rest =>
      obtain ⟨rfl, rfl⟩ := hcut
      obtain ⟨T1, hT1⟩ : ∃ T1, (T && (t1 && (t2 && (t3 && (t4 && (t5 && (t6 && t7))))))) = T1 := ⟨_, rfl⟩
      have HT1 : Hid (T1 = true ↔ ((fit1 (ts.length : Int) ∧ fit1 (os.length : Int)) ∧ ∀ d ∈ ts.take j, d.p.fit) ∧ (fit1 kind ∧ fit1 prio ∧ fit4 period ∧ fit4 offset ∧ fit4 deadline ∧ fit1 own ∧ fit1 (code.length : Int))) := Lib.hid (by rw [← hT1]; simp only [and2, HG.out, Ht1.out, Ht2.out, Ht3.out, Ht4.out, Ht5.out, Ht6.out, Ht7.out])
      rw [hT1]
      obtain ⟨b3, o3, hx3, hc3, -⟩ := reads_index (P := Try.prog) Try.underlying39 szIns HDR.out.1
      have HX3 := Lib.hid hx3
      have HC3 := Lib.hid hc3
      clear hx3 hc3
      have HJ2 : Hid (Chg [] (W.alloc (.cells #[.slice ta ts.length tc, .slice oa os.length oc] 27)) (wo.alloc (.cells #[.int .i64 kind, .int .i64 prio, .int .i64 period, .int .i64 offset, .int .i64 deadline, .int .i64 own, .slice ca code.length cc] 41))) := Lib.hid (HJ.out.alloc _)
      clear hT1 HFt1 HFt2 HFt3 HFt4 HFt5 HFt6 HFt7 Ht1 Ht2 Ht3 Ht4 Ht5 Ht6 Ht7 q0 q1 q2 q3 q4 q5 q6 g1
      go_wp2_with fail
      go_loopw [3, 69] (fun ok i wr2 => ∃ (m : Nat) (T2 : Bool), m ≤ code.length ∧ i = .int .i64 m ∧ ok = .bool T2 ∧ Hid (T2 = true ↔ (((fit1 (ts.length : Int) ∧ fit1 (os.length : Int)) ∧ ∀ d ∈ ts.take j, d.p.fit) ∧ (fit1 kind ∧ fit1 prio ∧ fit4 period ∧ fit4 offset ∧ fit4 deadline ∧ fit1 own ∧ fit1 (code.length : Int))) ∧ ∀ i ∈ code.take m, i.fit) ∧ Hid (Chg [] (W.alloc (.cells #[.slice ta ts.length tc, .slice oa os.length oc] 27)) wr2)) (fun _ i _ => code.length - (intOf i).toNat)
      case atStart => exact ⟨0, T1, Nat.zero_le _, rfl, rfl, Lib.hid (by rw [HT1.out]; simp), HJ2⟩
      case round =>
        clear HJ2
        obtain ⟨m, T2, hm, rfl, rfl, HG2, HJ2⟩ := hrel
        by_cases hmt : m < code.length
        · have HMT := Lib.hid hmt
          have g1 := HX3.out m hmt
          obtain ⟨⟨iop, ia, ib, ic, iN⟩, hik⟩ : ∃ t, code[m]? = some t := ⟨_, List.getElem?_eq_getElem hmt⟩
          have q0 := (HCA.out.trans HJ2.out).keep (HC3.out (m * 5 + 0) _ (by rw [flatMap_get Ins.cells 5 (fun _ => rfl) code m 0 (by decide) _ hik]; rfl)) (by simp)
          have q1 := (HCA.out.trans HJ2.out).keep (HC3.out (m * 5 + 1) _ (by rw [flatMap_get Ins.cells 5 (fun _ => rfl) code m 1 (by decide) _ hik]; rfl)) (by simp)
          have q2 := (HCA.out.trans HJ2.out).keep (HC3.out (m * 5 + 2) _ (by rw [flatMap_get Ins.cells 5 (fun _ => rfl) code m 2 (by decide) _ hik]; rfl)) (by simp)
          have q3 := (HCA.out.trans HJ2.out).keep (HC3.out (m * 5 + 3) _ (by rw [flatMap_get Ins.cells 5 (fun _ => rfl) code m 3 (by decide) _ hik]; rfl)) (by simp)
          have q4 := (HCA.out.trans HJ2.out).keep (HC3.out (m * 5 + 4) _ (by rw [flatMap_get Ins.cells 5 (fun _ => rfl) code m 4 (by decide) _ hik]; rfl)) (by simp)
          rw [Nat.add_zero] at q0
          rw [← Nat.add_assoc] at q1 q2 q3 q4
          have HIK := Lib.hid hik
          have hm1000 : (m : Int) < 1000 := by have := HCC.out; omega
          have k9 : IntKind.i64.wrap ((m : Int) + 1) = (m : Int) + 1 := by rw [IntKind.wrap_i64]; omega
          clear hik hm hmt
          obtain ⟨t1, ht1⟩ : ∃ b, decide (fit1 iop) = b := ⟨_, rfl⟩
          have HFt1 : Hid (∀ V, Calls Try.prog 50 #[.int .i64 iop] V fun e W' => e = .returned (.bool t1) ∧ V = W') := Lib.hid (fun V => by rw [← ht1]; exact small_any _ V)
          have Ht1 : Hid (t1 = true ↔ fit1 iop) := Lib.hid (by rw [← ht1]; exact decide_eq_true_iff)
          clear ht1
          obtain ⟨t2, ht2⟩ : ∃ b, decide (fit1 ia) = b := ⟨_, rfl⟩
          have HFt2 : Hid (∀ V, Calls Try.prog 50 #[.int .i64 ia] V fun e W' => e = .returned (.bool t2) ∧ V = W') := Lib.hid (fun V => by rw [← ht2]; exact small_any _ V)
          have Ht2 : Hid (t2 = true ↔ fit1 ia) := Lib.hid (by rw [← ht2]; exact decide_eq_true_iff)
          clear ht2
          obtain ⟨t3, ht3⟩ : ∃ b, decide (fit1 ib) = b := ⟨_, rfl⟩
          have HFt3 : Hid (∀ V, Calls Try.prog 50 #[.int .i64 ib] V fun e W' => e = .returned (.bool t3) ∧ V = W') := Lib.hid (fun V => by rw [← ht3]; exact small_any _ V)
          have Ht3 : Hid (t3 = true ↔ fit1 ib) := Lib.hid (by rw [← ht3]; exact decide_eq_true_iff)
          clear ht3
          obtain ⟨t4, ht4⟩ : ∃ b, decide (fit1 ic) = b := ⟨_, rfl⟩
          have HFt4 : Hid (∀ V, Calls Try.prog 50 #[.int .i64 ic] V fun e W' => e = .returned (.bool t4) ∧ V = W') := Lib.hid (fun V => by rw [← ht4]; exact small_any _ V)
          have Ht4 : Hid (t4 = true ↔ fit1 ic) := Lib.hid (by rw [← ht4]; exact decide_eq_true_iff)
          clear ht4
          obtain ⟨T3, hT3⟩ : ∃ T3, (T2 && (t1 && (t2 && (t3 && t4)))) = T3 := ⟨_, rfl⟩
          have HT3 : Hid (IsB T3 (((((fit1 (ts.length : Int) ∧ fit1 (os.length : Int)) ∧ ∀ d ∈ ts.take j, d.p.fit) ∧ (fit1 kind ∧ fit1 prio ∧ fit4 period ∧ fit4 offset ∧ fit4 deadline ∧ fit1 own ∧ fit1 (code.length : Int))) ∧ ∀ i ∈ code.take m, i.fit) ∧ (fit1 iop ∧ fit1 ia ∧ fit1 ib ∧ fit1 ic))) := Lib.hid (by unfold IsB; rw [← hT3]; simp only [and2, HG2.out, Ht1.out, Ht2.out, Ht3.out, Ht4.out])
          cases T2
          · obtain rfl : false = T3 := hT3
            clear HG2 Ht1 Ht2 Ht3 Ht4
            go_wp2_with fail
            have hmm := HMT.out
            go_roundw
            case rel => exact ⟨m + 1, false, by omega, by go_num, rfl, Lib.hid (by rw [(show (false = true) ↔ _ from HT3.out), take_iff HIK.out]; show _ ↔ _ ∧ _ ∧ (fit1 iop ∧ _); rw [and_assoc]), Lib.hid (HJ2.out.alloc _)⟩
            case measure => simp [intOf]; omega
          cases t1
          · obtain rfl : false = T3 := hT3
            clear HG2 Ht1 Ht2 Ht3 Ht4
            go_wp2_with (first | (go_at_call 50; (with_reducible refine (HFt1.out _).mono ?_); rintro e wx ⟨rfl, rfl⟩))
            have hmm := HMT.out
            go_roundw
            case rel => exact ⟨m + 1, false, by omega, by go_num, rfl, Lib.hid (by rw [(show (false = true) ↔ _ from HT3.out), take_iff HIK.out]; show _ ↔ _ ∧ _ ∧ (fit1 iop ∧ _); rw [and_assoc]), Lib.hid (HJ2.out.alloc _)⟩
            case measure => simp [intOf]; omega
          cases t2
          · obtain rfl : false = T3 := hT3
            clear HG2 Ht1 Ht2 Ht3 Ht4
            go_wp2_with (first | (go_at_call 50; (with_reducible refine (HFt1.out _).mono ?_); rintro e wx ⟨rfl, rfl⟩) | (go_at_call 50; (with_reducible refine (HFt2.out _).mono ?_); rintro e wx ⟨rfl, rfl⟩))
            have hmm := HMT.out
            go_roundw
            case rel => exact ⟨m + 1, false, by omega, by go_num, rfl, Lib.hid (by rw [(show (false = true) ↔ _ from HT3.out), take_iff HIK.out]; show _ ↔ _ ∧ _ ∧ (fit1 iop ∧ _); rw [and_assoc]), Lib.hid (HJ2.out.alloc _)⟩
            case measure => simp [intOf]; omega
          cases t3
          · obtain rfl : false = T3 := hT3
            clear HG2 Ht1 Ht2 Ht3 Ht4
            go_wp2_with (first | (go_at_call 50; (with_reducible refine (HFt1.out _).mono ?_); rintro e wx ⟨rfl, rfl⟩) | (go_at_call 50; (with_reducible refine (HFt2.out _).mono ?_); rintro e wx ⟨rfl, rfl⟩) | (go_at_call 50; (with_reducible refine (HFt3.out _).mono ?_); rintro e wx ⟨rfl, rfl⟩))
            have hmm := HMT.out
            go_roundw
            case rel => exact ⟨m + 1, false, by omega, by go_num, rfl, Lib.hid (by rw [(show (false = true) ↔ _ from HT3.out), take_iff HIK.out]; show _ ↔ _ ∧ _ ∧ (fit1 iop ∧ _); rw [and_assoc]), Lib.hid (HJ2.out.alloc _)⟩
            case measure => simp [intOf]; omega
          cases t4
          · obtain rfl : false = T3 := hT3
            clear HG2 Ht1 Ht2 Ht3 Ht4
            go_wp2_with (first | (go_at_call 50; (with_reducible refine (HFt1.out _).mono ?_); rintro e wx ⟨rfl, rfl⟩) | (go_at_call 50; (with_reducible refine (HFt2.out _).mono ?_); rintro e wx ⟨rfl, rfl⟩) | (go_at_call 50; (with_reducible refine (HFt3.out _).mono ?_); rintro e wx ⟨rfl, rfl⟩) | (go_at_call 50; (with_reducible refine (HFt4.out _).mono ?_); rintro e wx ⟨rfl, rfl⟩))
            have hmm := HMT.out
            go_roundw
            case rel => exact ⟨m + 1, false, by omega, by go_num, rfl, Lib.hid (by rw [(show (false = true) ↔ _ from HT3.out), take_iff HIK.out]; show _ ↔ _ ∧ _ ∧ (fit1 iop ∧ _); rw [and_assoc]), Lib.hid (HJ2.out.alloc _)⟩
            case measure => simp [intOf]; omega
          obtain rfl : true = T3 := hT3
          clear HG2 Ht1 Ht2 Ht3 Ht4
          go_wp2_with (first | (go_at_call 50; (with_reducible refine (HFt1.out _).mono ?_); rintro e wx ⟨rfl, rfl⟩) | (go_at_call 50; (with_reducible refine (HFt2.out _).mono ?_); rintro e wx ⟨rfl, rfl⟩) | (go_at_call 50; (with_reducible refine (HFt3.out _).mono ?_); rintro e wx ⟨rfl, rfl⟩) | (go_at_call 50; (with_reducible refine (HFt4.out _).mono ?_); rintro e wx ⟨rfl, rfl⟩))
          have hmm := HMT.out
          go_roundw
          case rel => exact ⟨m + 1, true, by omega, by go_num, rfl, Lib.hid (by rw [(show (true = true) ↔ _ from HT3.out), take_iff HIK.out]; show _ ↔ _ ∧ _ ∧ (fit1 iop ∧ _); rw [and_assoc]), Lib.hid (HJ2.out.alloc _)⟩
          case measure => simp [intOf]; omega
        · obtain rfl : code.length = m := by omega
          clear hmt hm
          go_wp2_with fail
          have hltj := HLT.out
          go_roundw
          case rel => exact ⟨j + 1, T2, by omega, by go_num, rfl, Lib.hid (by rw [HG2.out, take_iff HK.out, List.take_length]; exact regT), HJ2⟩
          case measure => simp [intOf]; omega
    · obtain rfl : ts.length = j := by omega
      clear hlt hj
      have HGT : Hid (T = true ↔ (fit1 (ts.length : Int) ∧ fit1 (os.length : Int)) ∧ ∀ d ∈ ts, d.p.fit) := Lib.hid (by have := HG.out; rwa [List.take_length] at this)
      have e1 : wo.cell? ⟨W.heap.size, 1, none⟩ = some (.slice oa os.length oc) := (HBX.out.keep HJ.out (by simp)).cell rfl
      obtain ⟨wq, rfl⟩ : ∃ wq : World, wq = wo := ⟨_, rfl⟩
      obtain ⟨U, rfl⟩ : ∃ U, U = T := ⟨_, rfl⟩
      clear HG
      go_wp2_with fail
      go_loopw [3, 99] (fun ok i wr => ∃ (j : Nat) (T : Bool), j ≤ os.length ∧ i = .int .i64 j ∧ ok = .bool T ∧ Hid (T = true ↔ ((fit1 (ts.length : Int) ∧ fit1 (os.length : Int)) ∧ ∀ d ∈ ts, d.p.fit) ∧ ∀ d ∈ os.take j, d.p.fit) ∧ Hid (Chg [] (W.alloc (.cells #[.slice ta ts.length tc, .slice oa os.length oc] 27)) wr)) (fun _ i _ => os.length - (intOf i).toNat)
      case atStart => exact ⟨0, U, Nat.zero_le _, rfl, rfl, Lib.hid (by rw [HGT.out]; simp), HJ⟩
      case round =>
        clear HJ e1
        obtain ⟨j, T, hj, rfl, rfl, HG, HJ⟩ := hrel
        obtain ⟨wo, rfl⟩ : ∃ wo : World, wo = wr := ⟨_, rfl⟩
        by_cases hlt : j < os.length
        · have HLT := Lib.hid hlt
          have g1 := HX2.out j hlt
          obtain ⟨⟨⟨k, w, s, c, st, ia, il, ic, wri, ra, rl, rc⟩, ini, rds⟩, htk⟩ : ∃ t, os[j]? = some t := ⟨_, List.getElem?_eq_getElem hlt⟩
          have q0 := (HCA.out.trans HJ.out).keep (HC2.out (j * 8 + 0) _ (by rw [flatMap_get (fun d : DO => d.o.cells) 8 (fun _ => rfl) os j 0 (by decide) _ htk]; rfl)) (by simp)
          have q1 := (HCA.out.trans HJ.out).keep (HC2.out (j * 8 + 1) _ (by rw [flatMap_get (fun d : DO => d.o.cells) 8 (fun _ => rfl) os j 1 (by decide) _ htk]; rfl)) (by simp)
          have q2 := (HCA.out.trans HJ.out).keep (HC2.out (j * 8 + 2) _ (by rw [flatMap_get (fun d : DO => d.o.cells) 8 (fun _ => rfl) os j 2 (by decide) _ htk]; rfl)) (by simp)
          have q3 := (HCA.out.trans HJ.out).keep (HC2.out (j * 8 + 3) _ (by rw [flatMap_get (fun d : DO => d.o.cells) 8 (fun _ => rfl) os j 3 (by decide) _ htk]; rfl)) (by simp)
          have q4 := (HCA.out.trans HJ.out).keep (HC2.out (j * 8 + 4) _ (by rw [flatMap_get (fun d : DO => d.o.cells) 8 (fun _ => rfl) os j 4 (by decide) _ htk]; rfl)) (by simp)
          have q5 := (HCA.out.trans HJ.out).keep (HC2.out (j * 8 + 5) _ (by rw [flatMap_get (fun d : DO => d.o.cells) 8 (fun _ => rfl) os j 5 (by decide) _ htk]; rfl)) (by simp)
          have q6 := (HCA.out.trans HJ.out).keep (HC2.out (j * 8 + 6) _ (by rw [flatMap_get (fun d : DO => d.o.cells) 8 (fun _ => rfl) os j 6 (by decide) _ htk]; rfl)) (by simp)
          have q7 := (HCA.out.trans HJ.out).keep (HC2.out (j * 8 + 7) _ (by rw [flatMap_get (fun d : DO => d.o.cells) 8 (fun _ => rfl) os j 7 (by decide) _ htk]; rfl)) (by simp)
          rw [Nat.add_zero] at q0
          rw [← Nat.add_assoc] at q1 q2 q3 q4 q5 q6 q7
          have hDR := HOD.out _ (List.mem_of_getElem? htk)
          obtain rfl : il = ini.length := hDR.leni
          obtain rfl : rl = rds.length := hDR.lenr
          have HDR := Lib.hid hDR
          have HCC : Hid (ini.length ≤ 1000 ∧ rds.length ≤ 1000) := Lib.hid (HCL.out.2 _ (List.mem_of_getElem? htk))
          have HK := Lib.hid htk
          have hj1000 : (j : Int) < 1000 := by have := HL.out; omega
          have k8 : IntKind.i64.wrap ((j : Int) + 1) = (j : Int) + 1 := by rw [IntKind.wrap_i64]; omega
          clear htk hj hlt hDR
          obtain ⟨t1, ht1⟩ : ∃ b, decide (fit1 k) = b := ⟨_, rfl⟩
          have HFt1 : Hid (∀ V, Calls Try.prog 50 #[.int .i64 k] V fun e W' => e = .returned (.bool t1) ∧ V = W') := Lib.hid (fun V => by rw [← ht1]; exact small_any _ V)
          have Ht1 : Hid (t1 = true ↔ fit1 k) := Lib.hid (by rw [← ht1]; exact decide_eq_true_iff)
          clear ht1
          obtain ⟨t2, ht2⟩ : ∃ b, decide (fit1 w) = b := ⟨_, rfl⟩
          have HFt2 : Hid (∀ V, Calls Try.prog 50 #[.int .i64 w] V fun e W' => e = .returned (.bool t2) ∧ V = W') := Lib.hid (fun V => by rw [← ht2]; exact small_any _ V)
          have Ht2 : Hid (t2 = true ↔ fit1 w) := Lib.hid (by rw [← ht2]; exact decide_eq_true_iff)
          clear ht2
          obtain ⟨t3, ht3⟩ : ∃ b, decide (fit1 s) = b := ⟨_, rfl⟩
          have HFt3 : Hid (∀ V, Calls Try.prog 50 #[.int .i64 s] V fun e W' => e = .returned (.bool t3) ∧ V = W') := Lib.hid (fun V => by rw [← ht3]; exact small_any _ V)
          have Ht3 : Hid (t3 = true ↔ fit1 s) := Lib.hid (by rw [← ht3]; exact decide_eq_true_iff)
          clear ht3
          obtain ⟨t4, ht4⟩ : ∃ b, decide (fit1 c) = b := ⟨_, rfl⟩
          have HFt4 : Hid (∀ V, Calls Try.prog 50 #[.int .i64 c] V fun e W' => e = .returned (.bool t4) ∧ V = W') := Lib.hid (fun V => by rw [← ht4]; exact small_any _ V)
          have Ht4 : Hid (t4 = true ↔ fit1 c) := Lib.hid (by rw [← ht4]; exact decide_eq_true_iff)
          clear ht4
          obtain ⟨t5, ht5⟩ : ∃ b, decide (fit1 wri) = b := ⟨_, rfl⟩
          have HFt5 : Hid (∀ V, Calls Try.prog 50 #[.int .i64 wri] V fun e W' => e = .returned (.bool t5) ∧ V = W') := Lib.hid (fun V => by rw [← ht5]; exact small_any _ V)
          have Ht5 : Hid (t5 = true ↔ fit1 wri) := Lib.hid (by rw [← ht5]; exact decide_eq_true_iff)
          clear ht5
          obtain ⟨t6, ht6⟩ : ∃ b, decide (fit1 (rds.length : Int)) = b := ⟨_, rfl⟩
          have HFt6 : Hid (∀ V, Calls Try.prog 50 #[.int .i64 (rds.length : Int)] V fun e W' => e = .returned (.bool t6) ∧ V = W') := Lib.hid (fun V => by rw [← ht6]; exact small_any _ V)
          have Ht6 : Hid (t6 = true ↔ fit1 (rds.length : Int)) := Lib.hid (by rw [← ht6]; exact decide_eq_true_iff)
          clear ht6
          obtain ⟨t7, ht7⟩ : ∃ b, decide (fit1 (ini.length : Int)) = b := ⟨_, rfl⟩
          have HFt7 : Hid (∀ V, Calls Try.prog 50 #[.int .i64 (ini.length : Int)] V fun e W' => e = .returned (.bool t7) ∧ V = W') := Lib.hid (fun V => by rw [← ht7]; exact small_any _ V)
          have Ht7 : Hid (t7 = true ↔ fit1 (ini.length : Int)) := Lib.hid (by rw [← ht7]; exact decide_eq_true_iff)
          clear ht7
          go_upto_region 15 with fail
          go_cut [3] from 100 to 140 (fun cv wc => cv = .bool (T && (t1 && (t2 && (t3 && (t4 && (t5 && (t6 && t7))))))) ∧ wc = wo.alloc (.cells #[.int .i64 k, .int .i64 w, .int .i64 s, .int .i64 c, .int .u32 st, .slice ia ini.length ic, .int .i64 wri, .slice ra rds.length rc] 53))
          case first =>
            cases T
            · go_wp2_with fail
              go_meet
              case rel => exact ⟨rfl, rfl⟩
            cases t1
            · go_wp2_with (go_at_call 50; (with_reducible refine (HFt1.out _).mono ?_); rintro e wx ⟨rfl, rfl⟩)
              go_meet
              case rel => exact ⟨rfl, rfl⟩
            cases t2
            · go_wp2_with (first | (go_at_call 50; (with_reducible refine (HFt1.out _).mono ?_); rintro e wx ⟨rfl, rfl⟩) | (go_at_call 50; (with_reducible refine (HFt2.out _).mono ?_); rintro e wx ⟨rfl, rfl⟩))
              go_meet
              case rel => exact ⟨rfl, rfl⟩
            cases t3
            · go_wp2_with (first | (go_at_call 50; (with_reducible refine (HFt1.out _).mono ?_); rintro e wx ⟨rfl, rfl⟩) | (go_at_call 50; (with_reducible refine (HFt2.out _).mono ?_); rintro e wx ⟨rfl, rfl⟩) | (go_at_call 50; (with_reducible refine (HFt3.out _).mono ?_); rintro e wx ⟨rfl, rfl⟩))
              go_meet
              case rel => exact ⟨rfl, rfl⟩
            cases t4
            · go_wp2_with (first | (go_at_call 50; (with_reducible refine (HFt1.out _).mono ?_); rintro e wx ⟨rfl, rfl⟩) | (go_at_call 50; (with_reducible refine (HFt2.out _).mono ?_); rintro e wx ⟨rfl, rfl⟩) | (go_at_call 50; (with_reducible refine (HFt3.out _).mono ?_); rintro e wx ⟨rfl, rfl⟩) | (go_at_call 50; (with_reducible refine (HFt4.out _).mono ?_); rintro e wx ⟨rfl, rfl⟩))
              go_meet
              case rel => exact ⟨rfl, rfl⟩
            cases t5
            · go_wp2_with (first | (go_at_call 50; (with_reducible refine (HFt1.out _).mono ?_); rintro e wx ⟨rfl, rfl⟩) | (go_at_call 50; (with_reducible refine (HFt2.out _).mono ?_); rintro e wx ⟨rfl, rfl⟩) | (go_at_call 50; (with_reducible refine (HFt3.out _).mono ?_); rintro e wx ⟨rfl, rfl⟩) | (go_at_call 50; (with_reducible refine (HFt4.out _).mono ?_); rintro e wx ⟨rfl, rfl⟩) | (go_at_call 50; (with_reducible refine (HFt5.out _).mono ?_); rintro e wx ⟨rfl, rfl⟩))
              go_meet
              case rel => exact ⟨rfl, rfl⟩
            cases t6
            · go_wp2_with (first | (go_at_call 50; (with_reducible refine (HFt1.out _).mono ?_); rintro e wx ⟨rfl, rfl⟩) | (go_at_call 50; (with_reducible refine (HFt2.out _).mono ?_); rintro e wx ⟨rfl, rfl⟩) | (go_at_call 50; (with_reducible refine (HFt3.out _).mono ?_); rintro e wx ⟨rfl, rfl⟩) | (go_at_call 50; (with_reducible refine (HFt4.out _).mono ?_); rintro e wx ⟨rfl, rfl⟩) | (go_at_call 50; (with_reducible refine (HFt5.out _).mono ?_); rintro e wx ⟨rfl, rfl⟩) | (go_at_call 50; (with_reducible refine (HFt6.out _).mono ?_); rintro e wx ⟨rfl, rfl⟩))
              go_meet
              case rel => exact ⟨rfl, rfl⟩
            cases t7
            · go_wp2_with (first | (go_at_call 50; (with_reducible refine (HFt1.out _).mono ?_); rintro e wx ⟨rfl, rfl⟩) | (go_at_call 50; (with_reducible refine (HFt2.out _).mono ?_); rintro e wx ⟨rfl, rfl⟩) | (go_at_call 50; (with_reducible refine (HFt3.out _).mono ?_); rintro e wx ⟨rfl, rfl⟩) | (go_at_call 50; (with_reducible refine (HFt4.out _).mono ?_); rintro e wx ⟨rfl, rfl⟩) | (go_at_call 50; (with_reducible refine (HFt5.out _).mono ?_); rintro e wx ⟨rfl, rfl⟩) | (go_at_call 50; (with_reducible refine (HFt6.out _).mono ?_); rintro e wx ⟨rfl, rfl⟩) | (go_at_call 50; (with_reducible refine (HFt7.out _).mono ?_); rintro e wx ⟨rfl, rfl⟩))
              go_meet
              case rel => exact ⟨rfl, rfl⟩
            go_wp2_with (first | (go_at_call 50; (with_reducible refine (HFt1.out _).mono ?_); rintro e wx ⟨rfl, rfl⟩) | (go_at_call 50; (with_reducible refine (HFt2.out _).mono ?_); rintro e wx ⟨rfl, rfl⟩) | (go_at_call 50; (with_reducible refine (HFt3.out _).mono ?_); rintro e wx ⟨rfl, rfl⟩) | (go_at_call 50; (with_reducible refine (HFt4.out _).mono ?_); rintro e wx ⟨rfl, rfl⟩) | (go_at_call 50; (with_reducible refine (HFt5.out _).mono ?_); rintro e wx ⟨rfl, rfl⟩) | (go_at_call 50; (with_reducible refine (HFt6.out _).mono ?_); rintro e wx ⟨rfl, rfl⟩) | (go_at_call 50; (with_reducible refine (HFt7.out _).mono ?_); rintro e wx ⟨rfl, rfl⟩))
            go_meet
            case rel => exact ⟨rfl, rfl⟩
          case rest =>
          obtain ⟨rfl, rfl⟩ := hcut
          obtain ⟨T1, hT1⟩ : ∃ T1, (T && (t1 && (t2 && (t3 && (t4 && (t5 && (t6 && t7))))))) = T1 := ⟨_, rfl⟩
          have HT1 : Hid (T1 = true ↔ (((fit1 (ts.length : Int) ∧ fit1 (os.length : Int)) ∧ ∀ d ∈ ts, d.p.fit) ∧ ∀ d ∈ os.take j, d.p.fit) ∧ (fit1 k ∧ fit1 w ∧ fit1 s ∧ fit1 c ∧ fit1 wri ∧ fit1 (rds.length : Int) ∧ fit1 (ini.length : Int))) := Lib.hid (by rw [← hT1]; simp only [and2, HG.out, Ht1.out, Ht2.out, Ht3.out, Ht4.out, Ht5.out, Ht6.out, Ht7.out])
          rw [hT1]
          obtain ⟨b3, o3, hx3, hc3, -⟩ := reads_index (P := Try.prog) Try.underlying51 szI HDR.out.2
          have HX3 := Lib.hid hx3
          have HC3 := Lib.hid hc3
          clear hx3 hc3
          have HJ2 : Hid (Chg [] (W.alloc (.cells #[.slice ta ts.length tc, .slice oa os.length oc] 27)) (wo.alloc (.cells #[.int .i64 k, .int .i64 w, .int .i64 s, .int .i64 c, .int .u32 st, .slice ia ini.length ic, .int .i64 wri, .slice ra rds.length rc] 53))) := Lib.hid (HJ.out.alloc _)
          clear hT1 HFt1 HFt2 HFt3 HFt4 HFt5 HFt6 HFt7 Ht1 Ht2 Ht3 Ht4 Ht5 Ht6 Ht7 q0 q1 q2 q3 q4 q5 q6 q7 g1
          go_wp2_with fail
          go_loopw [3, 144] (fun ok i wr2 => ∃ (m : Nat) (T2 : Bool), m ≤ rds.length ∧ i = .int .i64 m ∧ ok = .bool T2 ∧ Hid (T2 = true ↔ ((((fit1 (ts.length : Int) ∧ fit1 (os.length : Int)) ∧ ∀ d ∈ ts, d.p.fit) ∧ ∀ d ∈ os.take j, d.p.fit) ∧ (fit1 k ∧ fit1 w ∧ fit1 s ∧ fit1 c ∧ fit1 wri ∧ fit1 (rds.length : Int) ∧ fit1 (ini.length : Int))) ∧ ∀ i ∈ rds.take m, fit1 i) ∧ Hid (Chg [] (W.alloc (.cells #[.slice ta ts.length tc, .slice oa os.length oc] 27)) wr2)) (fun _ i _ => rds.length - (intOf i).toNat)
          case atStart => exact ⟨0, T1, Nat.zero_le _, rfl, rfl, Lib.hid (by rw [HT1.out]; simp), HJ2⟩
          case round =>
            clear HJ2
            obtain ⟨m, T2, hm, rfl, rfl, HG2, HJ2⟩ := hrel
            by_cases hmt : m < rds.length
            · have HMT := Lib.hid hmt
              have g1 := HX3.out m hmt
              obtain ⟨x, hik⟩ : ∃ t, rds[m]? = some t := ⟨_, List.getElem?_eq_getElem hmt⟩
              have q0 := (HCA.out.trans HJ2.out).keep (HC3.out m (.int .i64 x) (by rw [List.getElem?_map, hik]; rfl)) (by simp)
              rw [Nat.mul_one] at g1
              have HIK := Lib.hid hik
              have hm1000 : (m : Int) < 1000 := by have := HCC.out; omega
              have k9 : IntKind.i64.wrap ((m : Int) + 1) = (m : Int) + 1 := by rw [IntKind.wrap_i64]; omega
              clear hik hm hmt
              obtain ⟨t1, ht1⟩ : ∃ b, decide (fit1 x) = b := ⟨_, rfl⟩
              have HFt1 : Hid (∀ V, Calls Try.prog 50 #[.int .i64 x] V fun e W' => e = .returned (.bool t1) ∧ V = W') := Lib.hid (fun V => by rw [← ht1]; exact small_any _ V)
              have Ht1 : Hid (t1 = true ↔ fit1 x) := Lib.hid (by rw [← ht1]; exact decide_eq_true_iff)
              clear ht1
              obtain ⟨T3, hT3⟩ : ∃ T3, (T2 && t1) = T3 := ⟨_, rfl⟩
              have HT3 : Hid (IsB T3 ((((((fit1 (ts.length : Int) ∧ fit1 (os.length : Int)) ∧ ∀ d ∈ ts, d.p.fit) ∧ ∀ d ∈ os.take j, d.p.fit) ∧ (fit1 k ∧ fit1 w ∧ fit1 s ∧ fit1 c ∧ fit1 wri ∧ fit1 (rds.length : Int) ∧ fit1 (ini.length : Int))) ∧ ∀ i ∈ rds.take m, fit1 i) ∧ fit1 x)) := Lib.hid (by unfold IsB; rw [← hT3]; simp only [and2, HG2.out, Ht1.out])
              cases T2
              · obtain rfl : false = T3 := hT3
                clear HG2 Ht1
                go_wp2_with fail
                have hmm := HMT.out
                go_roundw
                case rel => exact ⟨m + 1, false, by omega, by go_num, rfl, Lib.hid (by rw [(show (false = true) ↔ _ from HT3.out), take_iff HIK.out, and_assoc]), HJ2⟩
                case measure => simp [intOf]; omega
              cases t1
              · obtain rfl : false = T3 := hT3
                clear HG2 Ht1
                go_wp2_with (first | (go_at_call 50; (with_reducible refine (HFt1.out _).mono ?_); rintro e wx ⟨rfl, rfl⟩))
                have hmm := HMT.out
                go_roundw
                case rel => exact ⟨m + 1, false, by omega, by go_num, rfl, Lib.hid (by rw [(show (false = true) ↔ _ from HT3.out), take_iff HIK.out, and_assoc]), HJ2⟩
                case measure => simp [intOf]; omega
              obtain rfl : true = T3 := hT3
              clear HG2 Ht1
              go_wp2_with (first | (go_at_call 50; (with_reducible refine (HFt1.out _).mono ?_); rintro e wx ⟨rfl, rfl⟩))
              have hmm := HMT.out
              go_roundw
              case rel => exact ⟨m + 1, true, by omega, by go_num, rfl, Lib.hid (by rw [(show (true = true) ↔ _ from HT3.out), take_iff HIK.out, and_assoc]), HJ2⟩
              case measure => simp [intOf]; omega
            · obtain rfl : rds.length = m := by omega
              clear hmt hm
              go_wp2_with fail
              have hltj := HLT.out
              go_roundw
              case rel => exact ⟨j + 1, T2, by omega, by go_num, rfl, Lib.hid (by rw [HG2.out, take_iff HK.out, List.take_length]; exact regO), HJ2⟩
              case measure => simp [intOf]; omega
        · obtain rfl : os.length = j := by omega
          clear hlt hj
          have hgood : R = T := by
            rw [← HR.out]
            refine Bool.eq_iff_iff.2 ?_
            have hg := HG.out
            rw [List.take_length] at hg
            rw [decide_eq_true_iff, hg]
            constructor
            · intro h
              exact ⟨⟨by have h9 := h.1; rw [List.length_map, List.length_map] at h9; exact h9, fun d hd => h.2.1 _ (List.mem_map.2 ⟨d, hd, rfl⟩)⟩, fun d hd => h.2.2 _ (List.mem_map.2 ⟨d, hd, rfl⟩)⟩
            · intro h
              refine ⟨by rw [List.length_map, List.length_map]; exact h.1.1, fun t ht => ?_, fun t ht => ?_⟩
              · obtain ⟨d, hd, rfl⟩ := List.mem_map.1 ht; exact h.1.2 d hd
              · obtain ⟨d, hd, rfl⟩ := List.mem_map.1 ht; exact h.2 d hd
          subst hgood
          go_wp2_with fail
          go_ret
          exact ⟨rfl, HCA.out.trans HJ.out⟩
end Go.Proofs.Ytkmalnojkjmjiaa.img
