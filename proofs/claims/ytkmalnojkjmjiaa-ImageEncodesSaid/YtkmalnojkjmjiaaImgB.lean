/- Images: has a system's every number room: the program's way. -/
import Derived.Test.YtkmalnojkjmjiaaImgA
namespace Go.Proofs.Ytkmalnojkjmjiaa.img
open Go Go.RowKit Go.Proofs.Ytkmalnojkjmjiaa.kit Go.Proofs.Ytkmalnojkjmjiaa.obj Go.Proofs.Ytkmalnojkjmjiaa.mem Go.Proofs.Ytkmalnojkjmjiaa.lay Go.Proofs.Ytkmalnojkjmjiaa.codec
set_option linter.unusedVariables false
set_option linter.unusedSimpArgs false
set_option maxRecDepth 20000
theorem one_lit (zs : List Int) (c : Array Value) (T : TypeId) (hc : c.toList = zs.map (Value.int .i64)) (V : World) (h : Nat) (hh : h = V.heap.size) (n : Nat) (hn : n = zs.length) (hl : zs.length ≤ 1000) :
    Calls Try.prog 45 #[.slice (some ⟨h, 0, none⟩) n n] (V.alloc (.cells c T)) fun e W' => e = .returned (.bool (zs.all (fun n => decide (fit1 n)))) ∧ Chg [] (V.alloc (.cells c T)) W' := by
  subst hh hn
  have hr := reads_lit V c T zs.length (by rw [← Array.length_toList, hc, List.length_map]) (by unfold maxLen; omega)
  rw [hc] at hr
  exact one_any _ zs _ hr (by omega)
theorem four_lit (zs : List Int) (c : Array Value) (T : TypeId) (hc : c.toList = zs.map (Value.int .i64)) (V : World) (h : Nat) (hh : h = V.heap.size) (n : Nat) (hn : n = zs.length) (hl : zs.length ≤ 1000) :
    Calls Try.prog 46 #[.slice (some ⟨h, 0, none⟩) n n] (V.alloc (.cells c T)) fun e W' => e = .returned (.bool (zs.all (fun n => decide (fit4 n)))) ∧ Chg [] (V.alloc (.cells c T)) W' := by
  subst hh hn
  have hr := reads_lit V c T zs.length (by rw [← Array.length_toList, hc, List.length_map]) (by unfold maxLen; omega)
  rw [hc] at hr
  exact four_any _ zs _ hr (by omega)
theorem fit_not_n {ts : List DT} {os : List DO} (h : ([(ts.length : Int), (os.length : Int)] : List Int).all (fun n => decide (fit1 n)) = false) : decide (fitS (ts.map DT.p) (os.map DO.p)) = false := by
  refine decide_eq_false fun hf => ?_
  have h1 := hf.1
  rw [List.length_map, List.length_map] at h1
  simp [h1.1, h1.2] at h
theorem fit_not_t {ts : List DT} {os : List DO} {j : Nat} {d : DT} (hd : ts[j]? = some d) (h : ¬ d.p.fit) : decide (fitS (ts.map DT.p) (os.map DO.p)) = false :=
  decide_eq_false fun hf => h (hf.2.1 _ (List.mem_map.2 ⟨d, List.mem_of_getElem? hd, rfl⟩))
theorem fit_not_o {ts : List DT} {os : List DO} {j : Nat} {d : DO} (hd : os[j]? = some d) (h : ¬ d.p.fit) : decide (fitS (ts.map DT.p) (os.map DO.p)) = false :=
  decide_eq_false fun hf => h (hf.2.2 _ (List.mem_map.2 ⟨d, List.mem_of_getElem? hd, rfl⟩))
theorem take_P {R : Type} {P : R → Prop} {l : List R} {j : Nat} {t : R} (ha : ∀ r ∈ l.take j, P r) (h : l[j]? = some t) (hp : P t) : ∀ r ∈ l.take (j + 1), P r := by
  have hj := List.getElem?_eq_some_iff.1 h
  rw [List.take_succ_eq_append_getElem hj.1, hj.2]
  intro r hr
  rcases List.mem_append.1 hr with h1 | h1
  · exact ha r h1
  · simp at h1; subst h1; exact hp
theorem all2 {a b : Int} (h : ([a, b] : List Int).all (fun n => decide (fit1 n)) = true) : fit1 a ∧ fit1 b := by simpa using h
theorem all3 {a b c : Int} (h : ([a, b, c] : List Int).all (fun n => decide (fit4 n)) = true) : fit4 a ∧ fit4 b ∧ fit4 c := by simpa using h
theorem all4 {a b c d : Int} (h : ([a, b, c, d] : List Int).all (fun n => decide (fit1 n)) = true) : fit1 a ∧ fit1 b ∧ fit1 c ∧ fit1 d := by simpa using h
theorem all7 {a b c d e f g : Int} (h : ([a, b, c, d, e, f, g] : List Int).all (fun n => decide (fit1 n)) = true) : fit1 a ∧ fit1 b ∧ fit1 c ∧ fit1 d ∧ fit1 e ∧ fit1 f ∧ fit1 g := by simpa using h
theorem notall2 {a b : Int} (h : ([a, b] : List Int).all (fun n => decide (fit1 n)) = false) : ¬ (fit1 a ∧ fit1 b) := by intro hf; simp [hf.1, hf.2] at h
theorem notall3 {a b c : Int} (h : ([a, b, c] : List Int).all (fun n => decide (fit4 n)) = false) : ¬ (fit4 a ∧ fit4 b ∧ fit4 c) := by intro hf; simp [hf.1, hf.2.1, hf.2.2] at h
theorem notall4 {a b c d : Int} (h : ([a, b, c, d] : List Int).all (fun n => decide (fit1 n)) = false) : ¬ (fit1 a ∧ fit1 b ∧ fit1 c ∧ fit1 d) := by intro hf; simp [hf.1, hf.2.1, hf.2.2.1, hf.2.2.2] at h
theorem notall7 {a b c d e f g : Int} (h : ([a, b, c, d, e, f, g] : List Int).all (fun n => decide (fit1 n)) = false) : ¬ (fit1 a ∧ fit1 b ∧ fit1 c ∧ fit1 d ∧ fit1 e ∧ fit1 f ∧ fit1 g) := by intro hf; simp [hf.1, hf.2.1, hf.2.2.1, hf.2.2.2.1, hf.2.2.2.2.1, hf.2.2.2.2.2.1, hf.2.2.2.2.2.2] at h
set_option maxHeartbeats 8000000 in
theorem fits_any (ta : Option Addr) (tc : Nat) (oa : Option Addr) (oc : Nat) (ts : List DT) (os : List DO) (W : World) (hT : ReadsDT W (.slice ta ts.length tc) ts) (hO : ReadsDO W (.slice oa os.length oc) os) (hl : ts.length ≤ 1000 ∧ os.length ≤ 1000) (hcl : (∀ d ∈ ts, d.code.length ≤ 1000) ∧ ∀ d ∈ os, d.ini.length ≤ 1000 ∧ d.rds.length ≤ 1000) :
    Calls Try.prog 30 #[.agg #[.slice ta ts.length tc, .slice oa os.length oc]] W fun e W' => e = .returned (.bool (decide (fitS (ts.map DT.p) (os.map DO.p)))) ∧ Chg [] W W' := by
  obtain ⟨R, hR⟩ : ∃ R, decide (fitS (ts.map DT.p) (os.map DO.p)) = R := ⟨_, rfl⟩
  have HR := Lib.hid hR
  rw [hR]
  have hT1 := hT.1.1
  have hO1 := hO.1
  unfold ReadsO at hO1
  rw [rowsT_map, List.length_map] at hT1
  rw [rowsO_map, List.length_map] at hO1
  obtain ⟨b1, o1, hx1, hc1, -⟩ := reads_index (P := Try.prog) Try.underlying24 szTask hT1
  obtain ⟨b2, o2, hx2, hc2, -⟩ := reads_index (P := Try.prog) Try.underlying25 szObj hO1
  have HX1 := Lib.hid hx1
  have HC1 := Lib.hid hc1
  have HX2 := Lib.hid hx2
  have HC2 := Lib.hid hc2
  have HTD := Lib.hid hT.2
  have HOD := Lib.hid hO.2
  have HL : Hid ((ts.length : Int) ≤ 1000 ∧ (os.length : Int) ≤ 1000) := Lib.hid (by omega)
  have HCL := Lib.hid hcl
  have HCA : Hid (Chg [] W (W.alloc (.cells #[.slice ta ts.length tc, .slice oa os.length oc] 27))) := Lib.hid ((Chg.refl _ _).alloc _)
  have HBX : Hid (Blk (W.alloc (.cells #[.slice ta ts.length tc, .slice oa os.length oc] 27)) W.heap.size #[.slice ta ts.length tc, .slice oa os.length oc] 27) := Lib.hid (Blk.new W _ _)
  clear hT hO hT1 hO1 hx1 hx2 hc1 hc2 hR hl hcl
  obtain ⟨B0, hB0⟩ : ∃ b, ([(ts.length : Int), (os.length : Int)] : List Int).all (fun n => decide (fit1 n)) = b := ⟨_, rfl⟩
  have HF0 : Hid (∀ (V : World) (h : Nat), h = V.heap.size → Calls Try.prog 45 #[.slice (some ⟨h, 0, none⟩) 2 2] (V.alloc (.cells #[.int .i64 (ts.length : Int), .int .i64 (os.length : Int)] 3)) fun e W' => e = .returned (.bool B0) ∧ Chg [] (V.alloc (.cells #[.int .i64 (ts.length : Int), .int .i64 (os.length : Int)] 3)) W') := Lib.hid (fun V h hh => by rw [← hB0]; exact one_lit [(ts.length : Int), (os.length : Int)] #[.int .i64 (ts.length : Int), .int .i64 (os.length : Int)] 3 rfl V h hh 2 rfl (by simp))
  have HB0 := Lib.hid hB0
  clear hB0
  cases B0
  · obtain rfl : false = R := by rw [← HR.out]; exact (fit_not_n HB0.out).symm
    go_enter Try.func30, Try.ntmps30
    go_wp2_with (go_at_call 45; refine (HF0.out _ _ (by simp)).mono ?_; rintro e w1 ⟨rfl, hc⟩; have HJ := Lib.hid ((HCA.out.alloc _).trans hc); clear hc)
    go_ret
    exact ⟨rfl, HJ.out⟩
  go_enter Try.func30, Try.ntmps30
  go_wp2_with (go_at_call 45; refine (HF0.out _ _ (by simp)).mono ?_; rintro e w1 ⟨rfl, hc⟩; have HJ0 := Lib.hid (((Chg.refl [] (W.alloc (.cells #[.slice ta ts.length tc, .slice oa os.length oc] 27))).alloc _).trans hc); have e0 : w1.cell? ⟨W.heap.size, 0, none⟩ = some (.slice ta ts.length tc) := (HBX.out.keep HJ0.out (by simp)).cell rfl; clear hc)
  clear e0
  go_loopw [21] (fun i wr => ∃ j : Nat, j ≤ ts.length ∧ i = .int .i64 j ∧ Hid (∀ d ∈ ts.take j, d.p.fit) ∧ Hid (Chg [] (W.alloc (.cells #[.slice ta ts.length tc, .slice oa os.length oc] 27)) wr)) (fun i _ => ts.length - (intOf i).toNat)
  case atStart => exact ⟨0, Nat.zero_le _, rfl, Lib.hid (by simp), HJ0⟩
  case round =>
    clear HJ0
    obtain ⟨j, hj, rfl, HG, HJ⟩ := hrel
    by_cases hlt : j < ts.length
    · have HLT := Lib.hid hlt
      have g1 := HX1.out j hlt
      obtain ⟨⟨⟨kind, prio, period, offset, deadline, own, ca, cl, cc⟩, code⟩, htk⟩ : ∃ t, ts[j]? = some t := ⟨_, List.getElem?_eq_getElem hlt⟩
      have q0 := (HCA.out.trans HJ.out).keep (HC1.out (j * 7 + 0) _ (by rw [flatMap_get (fun d : DT => d.t.cells) 7 (fun _ => rfl) ts j 0 (by decide) _ htk]; rfl)) (by simp)
      have q1 := (HCA.out.trans HJ.out).keep (HC1.out (j * 7 + 1) _ (by rw [flatMap_get (fun d : DT => d.t.cells) 7 (fun _ => rfl) ts j 1 (by decide) _ htk]; rfl)) (by simp)
      have q2 := (HCA.out.trans HJ.out).keep (HC1.out (j * 7 + 2) _ (by rw [flatMap_get (fun d : DT => d.t.cells) 7 (fun _ => rfl) ts j 2 (by decide) _ htk]; rfl)) (by simp)
      have q3 := (HCA.out.trans HJ.out).keep (HC1.out (j * 7 + 3) _ (by rw [flatMap_get (fun d : DT => d.t.cells) 7 (fun _ => rfl) ts j 3 (by decide) _ htk]; rfl)) (by simp)
      have q4 := (HCA.out.trans HJ.out).keep (HC1.out (j * 7 + 4) _ (by rw [flatMap_get (fun d : DT => d.t.cells) 7 (fun _ => rfl) ts j 4 (by decide) _ htk]; rfl)) (by simp)
      have q5 := (HCA.out.trans HJ.out).keep (HC1.out (j * 7 + 5) _ (by rw [flatMap_get (fun d : DT => d.t.cells) 7 (fun _ => rfl) ts j 5 (by decide) _ htk]; rfl)) (by simp)
      have q6 := (HCA.out.trans HJ.out).keep (HC1.out (j * 7 + 6) _ (by rw [flatMap_get (fun d : DT => d.t.cells) 7 (fun _ => rfl) ts j 6 (by decide) _ htk]; rfl)) (by simp)
      rw [Nat.add_zero] at q0
      rw [← Nat.add_assoc] at q1 q2 q3 q4 q5 q6
      have hDR := HTD.out _ (List.mem_of_getElem? htk)
      obtain rfl : cl = code.length := hDR.len
      have HDR := Lib.hid hDR
      have HCC : Hid (code.length ≤ 1000) := Lib.hid (HCL.out.1 _ (List.mem_of_getElem? htk))
      have HK := Lib.hid htk
      have hj1000 : (j : Int) < 1000 := by have := HL.out; omega
      have k8 : IntKind.i64.wrap ((j : Int) + 1) = (j : Int) + 1 := by rw [IntKind.wrap_i64]; omega
      obtain ⟨B1, hB1⟩ : ∃ b, ([kind, prio, own, (code.length : Int)] : List Int).all (fun n => decide (fit1 n)) = b := ⟨_, rfl⟩
      have HF1 : Hid (∀ (V : World) (h : Nat), h = V.heap.size → Calls Try.prog 45 #[.slice (some ⟨h, 0, none⟩) 4 4] (V.alloc (.cells #[.int .i64 kind, .int .i64 prio, .int .i64 own, .int .i64 (code.length : Int)] 3)) fun e W' => e = .returned (.bool B1) ∧ Chg [] (V.alloc (.cells #[.int .i64 kind, .int .i64 prio, .int .i64 own, .int .i64 (code.length : Int)] 3)) W') := Lib.hid (fun V h hh => by rw [← hB1]; exact one_lit [kind, prio, own, (code.length : Int)] #[.int .i64 kind, .int .i64 prio, .int .i64 own, .int .i64 (code.length : Int)] 3 rfl V h hh 4 rfl (by simp))
      have HB1 := Lib.hid hB1
      clear hB1
      obtain ⟨B2, hB2⟩ : ∃ b, ([period, offset, deadline] : List Int).all (fun n => decide (fit4 n)) = b := ⟨_, rfl⟩
      have HF2 : Hid (∀ (V : World) (h : Nat), h = V.heap.size → Calls Try.prog 46 #[.slice (some ⟨h, 0, none⟩) 3 3] (V.alloc (.cells #[.int .i64 period, .int .i64 offset, .int .i64 deadline] 3)) fun e W' => e = .returned (.bool B2) ∧ Chg [] (V.alloc (.cells #[.int .i64 period, .int .i64 offset, .int .i64 deadline] 3)) W') := Lib.hid (fun V h hh => by rw [← hB2]; exact four_lit [period, offset, deadline] #[.int .i64 period, .int .i64 offset, .int .i64 deadline] 3 rfl V h hh 3 rfl (by simp))
      have HB2 := Lib.hid hB2
      clear hB2
      clear htk hj hlt hDR
      cases B1
      · obtain rfl : false = R := by rw [← HR.out]; exact (fit_not_t HK.out (fun hf => notall4 HB1.out hf.1)).symm
        go_wp2_with (go_at_call 45; refine (HF1.out _ _ (by simp)).mono ?_; rintro e w2 ⟨rfl, hc⟩; have HJ2 := Lib.hid (((HJ.out.alloc _).alloc _).trans hc); clear hc)
        go_ret
        exact ⟨rfl, HCA.out.trans HJ2.out⟩
      have HBT : Hid (Blk (wr.alloc (.cells #[.int .i64 kind, .int .i64 prio, .int .i64 period, .int .i64 offset, .int .i64 deadline, .int .i64 own, .slice ca code.length cc] 41)) wr.heap.size #[.int .i64 kind, .int .i64 prio, .int .i64 period, .int .i64 offset, .int .i64 deadline, .int .i64 own, .slice ca code.length cc] 41) := Lib.hid (Blk.new wr _ _)
      cases B2
      · obtain rfl : false = R := by rw [← HR.out]; exact (fit_not_t HK.out (fun hf => notall3 HB2.out hf.2.1)).symm
        go_wp2_with (first | (go_at_call 45; refine (HF1.out _ _ (by simp)).mono ?_; rintro e w2 ⟨rfl, hc⟩; have HJ2 := Lib.hid (((HJ.out.alloc _).alloc _).trans hc); have HBT2 := Lib.hid (HBT.out.keep (((Chg.refl [] _).alloc _).trans hc) (by simp)); have p2 := HBT2.out.cell (o := 2) rfl; have p3 := HBT2.out.cell (o := 3) rfl; have p4 := HBT2.out.cell (o := 4) rfl; clear hc) | (go_at_call 46; refine (HF2.out _ _ (by simp)).mono ?_; rintro e w3 ⟨rfl, hc⟩; have HJ3 := Lib.hid ((HJ2.out.alloc _).trans hc); clear hc))
        go_ret
        exact ⟨rfl, HCA.out.trans HJ3.out⟩
      go_wp2_with (first | (go_at_call 45; refine (HF1.out _ _ (by simp)).mono ?_; rintro e w2 ⟨rfl, hc⟩; have HJ2 := Lib.hid (((HJ.out.alloc _).alloc _).trans hc); have HBT2 := Lib.hid (HBT.out.keep (((Chg.refl [] _).alloc _).trans hc) (by simp)); have p2 := HBT2.out.cell (o := 2) rfl; have p3 := HBT2.out.cell (o := 3) rfl; have p4 := HBT2.out.cell (o := 4) rfl; clear hc) | (go_at_call 46; refine (HF2.out _ _ (by simp)).mono ?_; rintro e w3 ⟨rfl, hc⟩; have HJ3 := Lib.hid ((HJ2.out.alloc _).trans hc); have HBT3 := Lib.hid (HBT2.out.keep (((Chg.refl [] _).alloc _).trans hc) (by simp)); have r6 := HBT3.out.cell (o := 6) rfl; clear hc))
      obtain ⟨b3, o3, hx3, hc3, -⟩ := reads_index (P := Try.prog) Try.underlying39 szIns HDR.out.1
      have HX3 := Lib.hid hx3
      have HC3 := Lib.hid hc3
      clear hx3 hc3
      have HA4 := Lib.hid (all4 HB1.out)
      have HA3 := Lib.hid (all3 HB2.out)
      clear q0 q1 q2 q3 q4 q5 q6 p2 p3 p4 r6 g1 HBT HBT2 HBT3 HJ2 HF1 HF2
      obtain ⟨wo, rfl⟩ : ∃ wo : World, wo = w3 := ⟨_, rfl⟩
      go_loopw [51] (fun i wr => ∃ m : Nat, m ≤ code.length ∧ i = .int .i64 m ∧ Hid (∀ x ∈ code.take m, x.fit) ∧ Hid (Chg [] (W.alloc (.cells #[.slice ta ts.length tc, .slice oa os.length oc] 27)) wr)) (fun i _ => code.length - (intOf i).toNat)
      case atStart => exact ⟨0, Nat.zero_le _, rfl, Lib.hid (by simp), HJ3⟩
      case round =>
        clear HJ3
        obtain ⟨m, hm, rfl, HG2, HJ3⟩ := hrel
        by_cases hmt : m < code.length
        · have HMT := Lib.hid hmt
          have g1 := HX3.out m hmt
          obtain ⟨⟨iop, ia, ib, ic, iN⟩, hik⟩ : ∃ t, code[m]? = some t := ⟨_, List.getElem?_eq_getElem hmt⟩
          have q0 := (HCA.out.trans HJ3.out).keep (HC3.out (m * 5 + 0) _ (by rw [flatMap_get Ins.cells 5 (fun _ => rfl) code m 0 (by decide) _ hik]; rfl)) (by simp)
          have q1 := (HCA.out.trans HJ3.out).keep (HC3.out (m * 5 + 1) _ (by rw [flatMap_get Ins.cells 5 (fun _ => rfl) code m 1 (by decide) _ hik]; rfl)) (by simp)
          have q2 := (HCA.out.trans HJ3.out).keep (HC3.out (m * 5 + 2) _ (by rw [flatMap_get Ins.cells 5 (fun _ => rfl) code m 2 (by decide) _ hik]; rfl)) (by simp)
          have q3 := (HCA.out.trans HJ3.out).keep (HC3.out (m * 5 + 3) _ (by rw [flatMap_get Ins.cells 5 (fun _ => rfl) code m 3 (by decide) _ hik]; rfl)) (by simp)
          have q4 := (HCA.out.trans HJ3.out).keep (HC3.out (m * 5 + 4) _ (by rw [flatMap_get Ins.cells 5 (fun _ => rfl) code m 4 (by decide) _ hik]; rfl)) (by simp)
          rw [Nat.add_zero] at q0
          rw [← Nat.add_assoc] at q1 q2 q3 q4
          have HIK := Lib.hid hik
          have hm1000 : (m : Int) < 1000 := by have := HCC.out; omega
          have k9 : IntKind.i64.wrap ((m : Int) + 1) = (m : Int) + 1 := by rw [IntKind.wrap_i64]; omega
          obtain ⟨B3, hB3⟩ : ∃ b, ([iop, ia, ib, ic] : List Int).all (fun n => decide (fit1 n)) = b := ⟨_, rfl⟩
          have HF3 : Hid (∀ (V : World) (h : Nat), h = V.heap.size → Calls Try.prog 45 #[.slice (some ⟨h, 0, none⟩) 4 4] (V.alloc (.cells #[.int .i64 iop, .int .i64 ia, .int .i64 ib, .int .i64 ic] 3)) fun e W' => e = .returned (.bool B3) ∧ Chg [] (V.alloc (.cells #[.int .i64 iop, .int .i64 ia, .int .i64 ib, .int .i64 ic] 3)) W') := Lib.hid (fun V h hh => by rw [← hB3]; exact one_lit [iop, ia, ib, ic] #[.int .i64 iop, .int .i64 ia, .int .i64 ib, .int .i64 ic] 3 rfl V h hh 4 rfl (by simp))
          have HB3 := Lib.hid hB3
          clear hB3
          clear hik hm hmt
          cases B3
          · obtain rfl : false = R := by rw [← HR.out]; exact (fit_not_t HK.out (fun hf => notall4 HB3.out (hf.2.2 _ (List.mem_of_getElem? HIK.out)))).symm
            go_wp2_with (go_at_call 45; refine (HF3.out _ _ (by simp)).mono ?_; rintro e w4 ⟨rfl, hc⟩; have HJ4 := Lib.hid (((HJ3.out.alloc _).alloc _).trans hc); clear hc)
            go_ret
            exact ⟨rfl, HCA.out.trans HJ4.out⟩
          · go_wp2_with (go_at_call 45; refine (HF3.out _ _ (by simp)).mono ?_; rintro e w4 ⟨rfl, hc⟩; have HJ4 := Lib.hid (((HJ3.out.alloc _).alloc _).trans hc); clear hc)
            have hmm := HMT.out
            go_roundw
            case rel => exact ⟨m + 1, by omega, by go_num, Lib.hid (take_P HG2.out HIK.out (all4 HB3.out)), HJ4⟩
            case measure => simp [intOf]; omega
        · obtain rfl : code.length = m := by omega
          clear hmt hm
          go_wp2_with fail
          have hltj := HLT.out
          go_roundw
          case rel => exact ⟨j + 1, by omega, by go_num, Lib.hid (take_P HG.out HK.out ⟨HA4.out, HA3.out, by have := HG2.out; rw [List.take_length] at this; exact this⟩), HJ3⟩
          case measure => simp [intOf]; omega
    · obtain rfl : ts.length = j := by omega
      clear hlt hj
      have HGT : Hid (∀ d ∈ ts, d.p.fit) := Lib.hid (by have := HG.out; rwa [List.take_length] at this)
      have e1 : wr.cell? ⟨W.heap.size, 1, none⟩ = some (.slice oa os.length oc) := (HBX.out.keep HJ.out (by simp)).cell rfl
      obtain ⟨wo, rfl⟩ : ∃ wo : World, wo = wr := ⟨_, rfl⟩
      clear HG
      go_wp2_with fail
      go_loopw [71] (fun i wr => ∃ j : Nat, j ≤ os.length ∧ i = .int .i64 j ∧ Hid (∀ d ∈ os.take j, d.p.fit) ∧ Hid (Chg [] (W.alloc (.cells #[.slice ta ts.length tc, .slice oa os.length oc] 27)) wr)) (fun i _ => os.length - (intOf i).toNat)
      case atStart => exact ⟨0, Nat.zero_le _, rfl, Lib.hid (by simp), HJ⟩
      case round =>
        clear HJ e1
        obtain ⟨j, hj, rfl, HG, HJ⟩ := hrel
        by_cases hlt : j < os.length
        · have HLT := Lib.hid hlt
          have g1 := HX2.out j hlt
          obtain ⟨⟨⟨k, w, s, c, st, ia, il, ic, wri, ra, rl, rc⟩, ini, rds⟩, htk⟩ : ∃ t, os[j]? = some t := ⟨_, List.getElem?_eq_getElem hlt⟩
          have q0 := (HCA.out.trans HJ.out).keep (HC2.out (j * 8 + 0) _ (by rw [flatMap_get (fun d : DO => d.o.cells) 8 (fun _ => rfl) os j 0 (by decide) _ htk]; rfl)) (by simp)
          have q1 := (HCA.out.trans HJ.out).keep (HC2.out (j * 8 + 1) _ (by rw [flatMap_get (fun d : DO => d.o.cells) 8 (fun _ => rfl) os j 1 (by decide) _ htk]; rfl)) (by simp)
          have q2 := (HCA.out.trans HJ.out).keep (HC2.out (j * 8 + 2) _ (by rw [flatMap_get (fun d : DO => d.o.cells) 8 (fun _ => rfl) os j 2 (by decide) _ htk]; rfl)) (by simp)
          have q3 := (HCA.out.trans HJ.out).keep (HC2.out (j * 8 + 3) _ (by rw [flatMap_get (fun d : DO => d.o.cells) 8 (fun _ => rfl) os j 3 (by decide) _ htk]; rfl)) (by simp)
          have q4 := (HCA.out.trans HJ.out).keep (HC2.out (j * 8 + 4) _ (by rw [flatMap_get (fun d : DO => d.o.cells) 8 (fun _ => rfl) os j 4 (by decide) _ htk]; rfl)) (by simp)
          have q5 := (HCA.out.trans HJ.out).keep (HC2.out (j * 8 + 5) _ (by rw [flatMap_get (fun d : DO => d.o.cells) 8 (fun _ => rfl) os j 5 (by decide) _ htk]; rfl)) (by simp)
          have q6 := (HCA.out.trans HJ.out).keep (HC2.out (j * 8 + 6) _ (by rw [flatMap_get (fun d : DO => d.o.cells) 8 (fun _ => rfl) os j 6 (by decide) _ htk]; rfl)) (by simp)
          have q7 := (HCA.out.trans HJ.out).keep (HC2.out (j * 8 + 7) _ (by rw [flatMap_get (fun d : DO => d.o.cells) 8 (fun _ => rfl) os j 7 (by decide) _ htk]; rfl)) (by simp)
          rw [Nat.add_zero] at q0
          rw [← Nat.add_assoc] at q1 q2 q3 q4 q5 q6 q7
          have hDR := HOD.out _ (List.mem_of_getElem? htk)
          obtain rfl : il = ini.length := hDR.leni
          obtain rfl : rl = rds.length := hDR.lenr
          have HDR := Lib.hid hDR
          have HCC : Hid (ini.length ≤ 1000 ∧ rds.length ≤ 1000) := Lib.hid (HCL.out.2 _ (List.mem_of_getElem? htk))
          have HK := Lib.hid htk
          have hj1000 : (j : Int) < 1000 := by have := HL.out; omega
          have k8 : IntKind.i64.wrap ((j : Int) + 1) = (j : Int) + 1 := by rw [IntKind.wrap_i64]; omega
          obtain ⟨B1, hB1⟩ : ∃ b, ([k, w, s, c, wri, (rds.length : Int), (ini.length : Int)] : List Int).all (fun n => decide (fit1 n)) = b := ⟨_, rfl⟩
          have HF1 : Hid (∀ (V : World) (h : Nat), h = V.heap.size → Calls Try.prog 45 #[.slice (some ⟨h, 0, none⟩) 7 7] (V.alloc (.cells #[.int .i64 k, .int .i64 w, .int .i64 s, .int .i64 c, .int .i64 wri, .int .i64 (rds.length : Int), .int .i64 (ini.length : Int)] 3)) fun e W' => e = .returned (.bool B1) ∧ Chg [] (V.alloc (.cells #[.int .i64 k, .int .i64 w, .int .i64 s, .int .i64 c, .int .i64 wri, .int .i64 (rds.length : Int), .int .i64 (ini.length : Int)] 3)) W') := Lib.hid (fun V h hh => by rw [← hB1]; exact one_lit [k, w, s, c, wri, (rds.length : Int), (ini.length : Int)] #[.int .i64 k, .int .i64 w, .int .i64 s, .int .i64 c, .int .i64 wri, .int .i64 (rds.length : Int), .int .i64 (ini.length : Int)] 3 rfl V h hh 7 rfl (by simp))
          have HB1 := Lib.hid hB1
          clear hB1
          have HF2 := Lib.hid (fun V (h : Chg [] W V) => one_any _ rds V (HDR.out.2.chg h) (by have := HCC.out; omega))
          obtain ⟨B2, hB2⟩ : ∃ b, rds.all (fun n => decide (fit1 n)) = b := ⟨_, rfl⟩
          rw [hB2] at HF2
          have HB2 := Lib.hid hB2
          clear htk hj hlt hDR hB2
          cases B1
          · obtain rfl : false = R := by rw [← HR.out]; exact (fit_not_o HK.out (fun hf => notall7 HB1.out hf.1)).symm
            go_wp2_with (go_at_call 45; refine (HF1.out _ _ (by simp)).mono ?_; rintro e w2 ⟨rfl, hc⟩; have HJ2 := Lib.hid (((HJ.out.alloc _).alloc _).trans hc); clear hc)
            go_ret
            exact ⟨rfl, HCA.out.trans HJ2.out⟩
          have HBT : Hid (Blk (wr.alloc (.cells #[.int .i64 k, .int .i64 w, .int .i64 s, .int .i64 c, .int .u32 st, .slice ia ini.length ic, .int .i64 wri, .slice ra rds.length rc] 53)) wr.heap.size #[.int .i64 k, .int .i64 w, .int .i64 s, .int .i64 c, .int .u32 st, .slice ia ini.length ic, .int .i64 wri, .slice ra rds.length rc] 53) := Lib.hid (Blk.new wr _ _)
          cases B2
          · obtain rfl : false = R := by rw [← HR.out]; exact (fit_not_o HK.out (fun hf => by have h8 : rds.all (fun n => decide (fit1 n)) = true := List.all_eq_true.2 (fun r hr => decide_eq_true (hf.2 r hr)); have h9 := HB2.out; rw [h8] at h9; cases h9)).symm
            go_wp2_with (first | (go_at_call 45; refine (HF2.out _ (HCA.out.trans HJ2.out)).mono ?_; rintro e w3 ⟨rfl, hc⟩; have HJ3 := Lib.hid (HJ2.out.trans hc); clear hc) | (go_at_call 45; refine (HF1.out _ _ (by simp)).mono ?_; rintro e w2 ⟨rfl, hc⟩; have HJ2 := Lib.hid (((HJ.out.alloc _).alloc _).trans hc); have HBT2 := Lib.hid (HBT.out.keep (((Chg.refl [] _).alloc _).trans hc) (by simp)); have p7 := HBT2.out.cell (o := 7) rfl; clear hc))
            go_ret
            exact ⟨rfl, HCA.out.trans HJ3.out⟩
          · go_wp2_with (first | (go_at_call 45; refine (HF2.out _ (HCA.out.trans HJ2.out)).mono ?_; rintro e w3 ⟨rfl, hc⟩; have HJ3 := Lib.hid (HJ2.out.trans hc); clear hc) | (go_at_call 45; refine (HF1.out _ _ (by simp)).mono ?_; rintro e w2 ⟨rfl, hc⟩; have HJ2 := Lib.hid (((HJ.out.alloc _).alloc _).trans hc); have HBT2 := Lib.hid (HBT.out.keep (((Chg.refl [] _).alloc _).trans hc) (by simp)); have p7 := HBT2.out.cell (o := 7) rfl; clear hc))
            have hltj := HLT.out
            go_roundw
            case rel => exact ⟨j + 1, by omega, by go_num, Lib.hid (take_P HG.out HK.out ⟨all7 HB1.out, fun r hr => of_decide_eq_true (List.all_eq_true.1 HB2.out r hr)⟩), HJ3⟩
            case measure => simp [intOf]; omega
        · obtain rfl : os.length = j := by omega
          clear hlt hj
          have hgood : R = true := by
            rw [← HR.out]
            refine decide_eq_true ⟨?_, ?_, ?_⟩
            · have := all2 HB0.out; rw [List.length_map, List.length_map]; exact this
            · intro t ht; obtain ⟨d, hd, rfl⟩ := List.mem_map.1 ht; exact HGT.out d hd
            · intro t ht; obtain ⟨d, hd, rfl⟩ := List.mem_map.1 ht; have := HG.out; rw [List.take_length] at this; exact this d hd
          subst hgood
          go_wp2_with fail
          go_ret
          exact ⟨rfl, HCA.out.trans HJ.out⟩
end Go.Proofs.Ytkmalnojkjmjiaa.img
