/- Systems: the words of all: the reference's Lay, layout.Lay. -/
import Derived.Test.YtjplamoofkcojaaLayA
import Derived.Test.YtjplamoofkcojaaLayB
import Derived.Test.YtjplamoofkcojaaZer
import Derived.Test.YtjplamoofkcojaaDeep
namespace Go.Proofs.Ytjplamoofkcojaa.lay
open Go Go.RowKit Go.Proofs.Ytjplamoofkcojaa.kit Go.Proofs.Ytjplamoofkcojaa.obj Go.Proofs.Ytjplamoofkcojaa.mem Go.Proofs.Ytjplamoofkcojaa.core Go.Proofs.Ytjplamoofkcojaa.img
set_option linter.unusedVariables false
set_option linter.unusedSimpArgs false
set_option maxRecDepth 100000
def zerosT (ts : List Tk) : List Int := ts.flatMap (fun t => List.replicate t.own.toNat 0)
def LF (F : DO → List Int) (d : DO) : Prop := LayOK d.o.k d.o.w d.o.s d.o.c d.o.st d.o.ia d.o.il d.o.ic d.o.wr d.o.ra d.o.rl d.o.rc d.ini (F d)
theorem take_flat {R : Type} (f : R → List Int) {l : List R} {j : Nat} {t : R} (h : l[j]? = some t) : (l.take (j + 1)).flatMap f = (l.take j).flatMap f ++ f t := by
  have hj := List.getElem?_eq_some_iff.1 h
  rw [List.take_succ_eq_append_getElem hj.1, List.flatMap_append, hj.2]
  simp
theorem flat_get8 (ds : List DO) (j k : Nat) (hk : k < 8) (d : DO) (h : ds[j]? = some d) : ((ds.map DO.o).flatMap Ob.cells)[j * 8 + k]? = d.o.cells[k]? :=
  flatMap_get Ob.cells 8 (fun _ => rfl) (ds.map DO.o) j k hk d.o (by rw [List.getElem?_map, h]; rfl)
theorem zerosT_len {ts : List Tk} (h : ts.all Tk.good = true) : ((zerosT ts).length : Int) = sumI (ts.map Tk.own) := by
  induction ts with
  | nil => rfl
  | cons t r ih =>
    simp only [List.all_cons, Bool.and_eq_true] at h
    have h1 := ih h.2
    have h2 := of_decide_eq_true h.1
    unfold zerosT at h1 ⊢
    rw [List.flatMap_cons, List.length_append, List.length_replicate, List.map_cons, sumI]
    omega
theorem words_len {F : DO → List Int} {ds : List DO} (h : ∀ d ∈ ds, LF F d) : ((ds.flatMap F).length : Int) = sumI (ds.map (fun d => d.o.size)) := by
  induction ds with
  | nil => rfl
  | cons t r ih =>
    have h1 := ih (fun d hd => h d (by simp [hd]))
    have h2 := (h t (by simp)).2.2.1
    rw [List.flatMap_cons, List.length_append, List.map_cons, sumI]
    show _ = rop.sizeI t.o.k t.o.w t.o.s t.o.c t.o.st t.o.il t.o.rl + _
    omega
theorem zerosT_take {ts : List Tk} (h : ts.all Tk.good = true) (j : Nat) : (zerosT (ts.take j)).length ≤ 64 * ts.length := by
  have h1 : (ts.take j).all Tk.good = true := by rw [List.all_eq_true] at h ⊢; exact fun t ht => h t (List.mem_of_mem_take ht)
  have h2 := zerosT_len h1
  have h3 := (sum_own h1).2
  rw [List.length_take] at h3
  omega
theorem words_take {F : DO → List Int} {ds : List DO} (h : ∀ d ∈ ds, LF F d) (j : Nat) : ((ds.take j).flatMap F).length ≤ 1000 * ds.length := by
  have h2 := words_len (F := F) (ds := ds.take j) (fun d hd => h d (List.mem_of_mem_take hd))
  have h3 := (sum_size ((ds.take j).map DO.o)).2
  rw [List.map_map, List.length_map, List.length_take] at h3
  have h4 : sumI (List.map (Ob.size ∘ DO.o) (List.take j ds)) = sumI (List.map (fun d => d.o.size) (List.take j ds)) := rfl
  omega
set_option maxHeartbeats 16000000 in
theorem rLayAll_any (ta : Option Addr) (tc : Nat) (oa : Option Addr) (oc : Nat) (ts : List Tk) (ds : List DO) (F : DO → List Int) (W : World) (hT : ReadsT W (.slice ta ts.length tc) ts) (hO : ReadsDO W (.slice oa ds.length oc) ds) (hg : ts.all Tk.good = true) (hF : ∀ d ∈ ds, LF F d) (hl : ts.length ≤ 1000 ∧ ds.length ≤ 1000) :
    Calls Try.prog 30 #[.agg #[.slice ta ts.length tc, .slice oa ds.length oc]] W fun e W' => ∃ v, e = .returned v ∧ OwnW W' W.heap.size v (zerosT ts ++ ds.flatMap F) ∧ Chg [] W W' := by
  have HIW : Hid (∃ i0, Try.prog.info? 22 = some i0 ∧ i0.zero = some (.int .u32 0) ∧ i0.size = 1 ∧ i0.bytes = 4) := Lib.hid (info_parts mem.info32)
  have hO1 := hO.1
  unfold ReadsO at hO1
  rw [List.length_map] at hO1
  obtain ⟨b1, o1, hx1, hc1, -⟩ := reads_index (P := Try.prog) Try.underlying46 szTask hT.1
  obtain ⟨b2, o2, hx2, hc2, -⟩ := reads_index (P := Try.prog) Try.underlying47 szObj hO1
  have HX1 := Lib.hid hx1
  have HCL1 := Lib.hid hc1
  have HX2 := Lib.hid hx2
  have HCL2 := Lib.hid hc2
  have HOD := Lib.hid hO.2
  have HGO := Lib.hid hg
  have HFF := Lib.hid hF
  have HL : Hid (ts.length ≤ 1000 ∧ ds.length ≤ 1000) := Lib.hid hl
  have HCA : Hid (Chg [] W (W.alloc (.cells #[.slice ta ts.length tc, .slice oa ds.length oc] 49))) := Lib.hid ((Chg.refl _ _).alloc _)
  have HBX : Hid (Blk (W.alloc (.cells #[.slice ta ts.length tc, .slice oa ds.length oc] 49)) W.heap.size #[.slice ta ts.length tc, .slice oa ds.length oc] 49) := Lib.hid (Blk.new W _ _)
  obtain ⟨B, hB⟩ : ∃ B, B = (W.alloc (.cells #[.slice ta ts.length tc, .slice oa ds.length oc] 49)).heap.size := ⟨_, rfl⟩
  have HBE := Lib.hid hB
  clear hT hO hO1 hg hF hl hx1 hx2 hc1 hc2 hB
  go_enter Try.func30, Try.ntmps30
  go_wp2_with fail
  go_loopw [3, 11] (fun b i wr => ∃ j : Nat, j ≤ ts.length ∧ i = .int .i64 j ∧ Hid (OwnW wr B b (zerosT (ts.take j))) ∧ Hid (Chg [] (W.alloc (.cells #[.slice ta ts.length tc, .slice oa ds.length oc] 49)) wr)) (fun _ i _ => ts.length - (intOf i).toNat)
  case atStart => exact ⟨0, Nat.zero_le _, rfl, Lib.hid (World.ownsRow_nil _ _ _ _), Lib.hid (Chg.refl _ _)⟩
  case round =>
    obtain ⟨j, hj, rfl, HOJ, HJ⟩ := hrel
    obtain ⟨wo, rfl⟩ : ∃ wo : World, wo = wr := ⟨_, rfl⟩
    by_cases hlt : j < ts.length
    · have HLT := Lib.hid hlt
      have g1 := HX1.out j hlt
      obtain ⟨⟨kind, prio, period, offset, deadline, own, ca, cl, cc⟩, htk⟩ : ∃ t, ts[j]? = some t := ⟨_, List.getElem?_eq_getElem hlt⟩
      have hgd := of_decide_eq_true (List.all_eq_true.1 HGO.out _ (List.mem_of_getElem? htk))
      dsimp only at hgd
      obtain ⟨m, rfl⟩ : ∃ m : Nat, own = (m : Int) := ⟨own.toNat, by omega⟩
      have HM : Hid (0 < m ∧ m ≤ 64) := Lib.hid (by omega)
      have q0 := (HCA.out.trans HJ.out).keep (HCL1.out (j * 7 + 0) _ (by rw [flatMap_get Tk.cells 7 (fun _ => rfl) ts j 0 (by decide) _ htk]; rfl)) (by simp)
      have q1 := (HCA.out.trans HJ.out).keep (HCL1.out (j * 7 + 1) _ (by rw [flatMap_get Tk.cells 7 (fun _ => rfl) ts j 1 (by decide) _ htk]; rfl)) (by simp)
      have q2 := (HCA.out.trans HJ.out).keep (HCL1.out (j * 7 + 2) _ (by rw [flatMap_get Tk.cells 7 (fun _ => rfl) ts j 2 (by decide) _ htk]; rfl)) (by simp)
      have q3 := (HCA.out.trans HJ.out).keep (HCL1.out (j * 7 + 3) _ (by rw [flatMap_get Tk.cells 7 (fun _ => rfl) ts j 3 (by decide) _ htk]; rfl)) (by simp)
      have q4 := (HCA.out.trans HJ.out).keep (HCL1.out (j * 7 + 4) _ (by rw [flatMap_get Tk.cells 7 (fun _ => rfl) ts j 4 (by decide) _ htk]; rfl)) (by simp)
      have q5 := (HCA.out.trans HJ.out).keep (HCL1.out (j * 7 + 5) _ (by rw [flatMap_get Tk.cells 7 (fun _ => rfl) ts j 5 (by decide) _ htk]; rfl)) (by simp)
      have q6 := (HCA.out.trans HJ.out).keep (HCL1.out (j * 7 + 6) _ (by rw [flatMap_get Tk.cells 7 (fun _ => rfl) ts j 6 (by decide) _ htk]; rfl)) (by simp)
      rw [Nat.add_zero] at q0
      rw [← Nat.add_assoc] at q1 q2 q3 q4 q5 q6
      have HK := Lib.hid htk
      have hj1000 : (j : Int) < 1000 := by have := HL.out; omega
      have k8 : IntKind.i64.wrap ((j : Int) + 1) = (j : Int) + 1 := by rw [IntKind.wrap_i64]; omega
      have HLZ : Hid ((zerosT (ts.take j)).length ≤ 64000) := Lib.hid (by have h1 := zerosT_take HGO.out j; have h2 := HL.out; omega)
      clear htk hj hlt hgd
      go_wp2_with ((with_reducible show wpList _ _ _ (⟨some 18, _, _, _, _, _⟩ :: _) _ _); have how : OwnW (wo.alloc (.cells #[.int .i64 kind, .int .i64 prio, .int .i64 period, .int .i64 offset, .int .i64 deadline, .int .i64 m, .slice ca cl cc] 81)) B u3 (zerosT (ts.take j)) := mem.own_chg HOJ.out ((Chg.refl [] wo).alloc _) (by simp); obtain ⟨i0, hi, hz0, hz1, hz2⟩ := HIW.out; refine wpList_append_zeros (o := ⟨some 18, _, _, _, _, _⟩) _ rfl (.tmp 15) (.tmp 17) 23 3 rfl B 22 i0 (.int .u32 0) 4 Try.underlying23 Try.underlying3 hi hz0 hz1 hz2 rfl rfl u3 _ _ rfl how m rfl HM.out.1 (by have := HLZ.out; have := HM.out.2; unfold maxLen; omega) (by have := HLZ.out; have := HM.out.2; omega) (Nat.le_trans (Nat.le_of_eq HBE.out) (HJ.out.alloc _).size) ?_; intro v5 wz ho5 hg5; have HO5 : Hid (OwnW wz B v5 (zerosT (ts.take j) ++ List.replicate m 0)) := Lib.hid (by unfold OwnW; rw [List.length_append, List.map_append, List.length_replicate, List.map_replicate]; exact ho5); have HC5 : Hid (Chg [] (W.alloc (.cells #[.slice ta ts.length tc, .slice oa ds.length oc] 49)) wz) := Lib.hid ((HJ.out.alloc (.cells #[.int .i64 kind, .int .i64 prio, .int .i64 period, .int .i64 offset, .int .i64 deadline, .int .i64 m, .slice ca cl cc] 81)).grown hg5 (fun y hy => .inr (by have h8 := (World.ownsRow.lt how y hy).1; have := HBE.out; omega))); clear ho5 hg5 hi hz0 hz1 hz2 how)
      have hltj := HLT.out
      go_roundw
      case rel => exact ⟨j + 1, by omega, by go_num, Lib.hid (by have h9 := HO5.out; unfold zerosT at h9 ⊢; rw [take_flat _ HK.out]; simpa using h9), HC5⟩
      case measure => simp [intOf]; omega
    · obtain rfl : j = ts.length := by omega
      clear hlt hj
      have HOT : Hid (OwnW wo B u3 (zerosT ts)) := Lib.hid (by have h9 := HOJ.out; rwa [List.take_length] at h9)
      have HJT := HJ
      have e1 := (HBX.out.keep HJ.out (by simp)).cell (o := 1) rfl
      clear HOJ HJ
      go_wp2_with fail
      clear e1
      go_loopw [3, 23] (fun b i wr => ∃ j : Nat, j ≤ ds.length ∧ i = .int .i64 j ∧ Hid (OwnW wr B b (zerosT ts ++ (ds.take j).flatMap F)) ∧ Hid (Chg [] (W.alloc (.cells #[.slice ta ts.length tc, .slice oa ds.length oc] 49)) wr)) (fun _ i _ => ds.length - (intOf i).toNat)
      case atStart => exact ⟨0, Nat.zero_le _, rfl, Lib.hid (by have := HOT.out; simpa using this), HJT⟩
      case round =>
        clear HOT HJT
        obtain ⟨j, hj, rfl, HOJ, HJ⟩ := hrel
        obtain ⟨wo, rfl⟩ : ∃ wo : World, wo = wr := ⟨_, rfl⟩
        by_cases hlt : j < ds.length
        · have HLT := Lib.hid hlt
          have g1 := HX2.out j hlt
          obtain ⟨⟨⟨k, w, s, c, st, ia, il, ic, wri, qa, ql, qc⟩, ini, rds⟩, htk⟩ : ∃ t, ds[j]? = some t := ⟨_, List.getElem?_eq_getElem hlt⟩
          have q0 := (HCA.out.trans HJ.out).keep (HCL2.out (j * 8 + 0) _ (by rw [flat_get8 ds j 0 (by decide) _ htk]; rfl)) (by simp)
          have q1 := (HCA.out.trans HJ.out).keep (HCL2.out (j * 8 + 1) _ (by rw [flat_get8 ds j 1 (by decide) _ htk]; rfl)) (by simp)
          have q2 := (HCA.out.trans HJ.out).keep (HCL2.out (j * 8 + 2) _ (by rw [flat_get8 ds j 2 (by decide) _ htk]; rfl)) (by simp)
          have q3 := (HCA.out.trans HJ.out).keep (HCL2.out (j * 8 + 3) _ (by rw [flat_get8 ds j 3 (by decide) _ htk]; rfl)) (by simp)
          have q4 := (HCA.out.trans HJ.out).keep (HCL2.out (j * 8 + 4) _ (by rw [flat_get8 ds j 4 (by decide) _ htk]; rfl)) (by simp)
          have q5 := (HCA.out.trans HJ.out).keep (HCL2.out (j * 8 + 5) _ (by rw [flat_get8 ds j 5 (by decide) _ htk]; rfl)) (by simp)
          have q6 := (HCA.out.trans HJ.out).keep (HCL2.out (j * 8 + 6) _ (by rw [flat_get8 ds j 6 (by decide) _ htk]; rfl)) (by simp)
          have q7 := (HCA.out.trans HJ.out).keep (HCL2.out (j * 8 + 7) _ (by rw [flat_get8 ds j 7 (by decide) _ htk]; rfl)) (by simp)
          rw [Nat.add_zero] at q0
          rw [← Nat.add_assoc] at q1 q2 q3 q4 q5 q6 q7
          have HK := Lib.hid htk
          have hLF := HFF.out _ (List.mem_of_getElem? htk)
          obtain ⟨LL, hLL⟩ : ∃ LL, F ⟨⟨k, w, s, c, st, ia, il, ic, wri, qa, ql, qc⟩, ini, rds⟩ = LL := ⟨_, rfl⟩
          unfold LF at hLF
          rw [hLL] at hLF
          have HLY := Lib.hid hLF
          have HLL := Lib.hid hLL
          have HIN : Hid (ReadsW (wo.alloc (.cells #[.int .i64 k, .int .i64 w, .int .i64 s, .int .i64 c, .int .u32 st, .slice ia il ic, .int .i64 wri, .slice qa ql qc] 26)) (.slice ia il ic) ini) := Lib.hid ((HOD.out _ (List.mem_of_getElem? htk)).1.2.chg ((HCA.out.trans HJ.out).alloc _))
          have hj1000 : (j : Int) < 1000 := by have := HL.out; omega
          have k8 : IntKind.i64.wrap ((j : Int) + 1) = (j : Int) + 1 := by rw [IntKind.wrap_i64]; omega
          have HLZ : Hid ((zerosT ts ++ (ds.take j).flatMap F).length + LL.length ≤ 1066000) := Lib.hid (by
            have h1 := zerosT_take HGO.out ts.length
            have h2 := words_take HFF.out j
            have h3 := HL.out
            have h4 := (Ob.size_bd ⟨k, w, s, c, st, ia, il, ic, wri, qa, ql, qc⟩).2
            have h5 := hLF.2.2.1
            have h6 : (LL.length : Int) = Ob.size ⟨k, w, s, c, st, ia, il, ic, wri, qa, ql, qc⟩ := h5
            rw [List.take_length] at h1
            rw [List.length_append]
            omega)
          clear htk hj hlt hLF hLL
          go_wp2_with (first | (go_at_call 59; refine (HLY.out.2.1 _ HIN.out).mono ?_; rintro e wl ⟨vl, rfl, ho, hc⟩; have HOL := Lib.hid ho; have HCL := Lib.hid hc; clear ho hc) | ((with_reducible show wpList _ _ _ (⟨some 30, _, _, _, _, _⟩ :: _) _ _); have how : OwnW wl B u3 (zerosT ts ++ (ds.take j).flatMap F) := mem.own_chg HOJ.out (((Chg.refl [] wo).alloc _).trans HCL.out) (by simp); obtain ⟨i0, hi, hz0, hz1, hz2⟩ := HIW.out; refine wpList_append_any (o := ⟨some 30, _, _, _, _, _⟩) _ rfl (.tmp 27) (.tmp 29) 23 rfl B 22 i0 (.int .u32 0) 1 4 Try.underlying23 hi hz0 hz1 hz2 rfl (by decide) u3 _ _ rfl how vl _ _ rfl (Reads.of_own HOL.out (by decide)) (ints_oneCell _ _) (by have := HLZ.out; unfold maxLen; omega) (by have := HLZ.out; omega) (Nat.le_trans (Nat.le_of_eq HBE.out) ((HJ.out.alloc _).trans HCL.out).size) ?_; intro v5 wz ho5 hg5; have HO5 : Hid (OwnW wz B v5 ((zerosT ts ++ (ds.take j).flatMap F) ++ LL)) := Lib.hid (by unfold OwnW; rw [List.length_append, List.map_append]; exact ho5); have HC5 : Hid (Chg [] (W.alloc (.cells #[.slice ta ts.length tc, .slice oa ds.length oc] 49)) wz) := Lib.hid (((HJ.out.alloc (.cells #[.int .i64 k, .int .i64 w, .int .i64 s, .int .i64 c, .int .u32 st, .slice ia il ic, .int .i64 wri, .slice qa ql qc] 26)).trans HCL.out).grown hg5 (fun y hy => .inr (by have h8 := (World.ownsRow.lt how y hy).1; have := HBE.out; omega))); clear ho5 hg5 hi hz0 hz1 hz2 how))
          have hltj := HLT.out
          go_roundw
          case rel => exact ⟨j + 1, by omega, by go_num, Lib.hid (by have h9 := HO5.out; rw [take_flat F HK.out, HLL.out, ← List.append_assoc]; exact h9), HC5⟩
          case measure => simp [intOf]; omega
        · obtain rfl : j = ds.length := by omega
          clear hlt hj
          go_wp2_with fail
          go_ret
          exact ⟨_, rfl, by have h9 := HOJ.out; rw [List.take_length] at h9; exact mem.own_base h9 (by rw [HBE.out]; exact HCA.out.size), HCA.out.trans HJ.out⟩
theorem Of_all (ta : Option Addr) (tl tc : Nat) (oa : Option Addr) (ol oc : Nat) (ts : List Tk) (os : List Ob) (W : World) (hT : ReadsT W (.slice ta tl tc) ts) (hO : ReadsO W (.slice oa ol oc) os) (hw : ∀ o ∈ os, o.W) (hl : ts.length ≤ 1000 ∧ os.length ≤ 1000) :
    Calls Try.prog 22 #[.agg #[.slice ta tl tc, .slice oa ol oc]] W fun e W' => ∃ a1 c1 a2 c2, e = .returned (.tuple #[.agg #[.slice a1 (ofOwn ts os).length c1, .slice a2 (ofObjs ts os).length c2, .int .i64 (ofSize ts os)], .int .i64 (ofCode ts os)]) ∧ OwnR W' W.heap.size (.slice a1 (ofOwn ts os).length c1) (ofOwn ts os) ∧ OwnR W' W.heap.size (.slice a2 (ofObjs ts os).length c2) (ofObjs ts os) ∧ Chg [] W W' := by
  have no : ∀ c : Int, c ≠ 0 → ofCode ts os = c → ofOwn ts os = [] ∧ ofObjs ts os = [] ∧ ofSize ts os = 0 := fun c hc h =>
    ⟨by unfold ofOwn; rw [if_neg (by omega)], by unfold ofObjs; rw [if_neg (by omega)], by unfold ofSize; rw [if_neg (by omega)]⟩
  by_cases hR : lensOk ts os = true
  · by_cases hS : sumI (lensL ts os) ≤ 4096
    · have hc : ofCode ts os = 0 := by unfold ofCode; rw [if_pos hR, if_pos hS]
      refine (Of_ok ta tl tc oa ol oc ts os W hT hO hw hl hR hS).mono ?_
      rintro e W' ⟨v1, v2, rfl, h1, h2, h3⟩
      obtain ⟨a1, c1, rfl⟩ := own_slice2 h1 (by decide)
      obtain ⟨a2, c2, rfl⟩ := own_slice2 h2 (by decide)
      have e1 : ofOwn ts os = (cutL 0 (lensL ts os)).take ts.length := by unfold ofOwn; rw [if_pos hc]
      have e2 : ofObjs ts os = (cutL 0 (lensL ts os)).drop ts.length := by unfold ofObjs; rw [if_pos hc]
      have e3 : ofSize ts os = sumI (lensL ts os) := by unfold ofSize; rw [if_pos hc]
      rw [e1, e2, e3, hc]
      exact ⟨a1, c1, a2, c2, rfl, h1, h2, h3⟩
    · have hc : ofCode ts os = 6 := by unfold ofCode; rw [if_pos hR, if_neg hS]
      obtain ⟨e1, e2, e3⟩ := no 6 (by decide) hc
      refine (Of_room ta tl tc oa ol oc ts os W hT hO hw hl hR hS).mono ?_
      rintro e W' ⟨rfl, h3⟩
      rw [e1, e2, e3, hc]
      exact ⟨none, 0, none, 0, rfl, World.ownsRow_nil _ _ _ _, World.ownsRow_nil _ _ _ _, h3⟩
  · have hR : lensOk ts os = false := by simpa using hR
    have hc : ofCode ts os = 1 := by unfold ofCode; rw [if_neg (by rw [hR]; decide)]
    obtain ⟨e1, e2, e3⟩ := no 1 (by decide) hc
    refine (Of_bad ta tl tc oa ol oc ts os W hT hO hw hl hR).mono ?_
    rintro e W' ⟨rfl, h3⟩
    rw [e1, e2, e3, hc]
    exact ⟨none, 0, none, 0, rfl, World.ownsRow_nil _ _ _ _, World.ownsRow_nil _ _ _ _, h3⟩
theorem results_t_row_t {P : Program} {fn : Func} {p0 p q : Tmp} {ty : TypeId} (h : fn.results = #[.tmp p0, .cell p ty, .tmp q]) (tmps : Array Value) (w : World) (g : Nat) (t : TypeId) (cs : Array Value) (fr : Nat × Nat) (d : TypeDesc)
    (hp : tmps.getD p undef = .pointer (some ⟨g, 0, none⟩)) (hg : w.heap[g]? = some (.cells cs t fr))
    (hu : P.underlying ty = some d) (hd : (match d with | .struct _ | .array _ _ => true | _ => false) = true) (hi : (P.info? ty).map (·.size) = some cs.size) :
    (results fn tmps).run P w = .ok (.tuple #[tmps.getD p0 undef, .agg cs, tmps.getD q undef]) w := by
  have hp' : tmps[p]?.getD undef = .pointer (some ⟨g, 0, none⟩) := by simpa using hp
  simp [results, h, hp', asAddr, run_loadVar_row w g t ty cs fr d hg hu hd hi]
theorem cutL_get (x : Int) (zs : List Int) (j : Nat) (z : Int) (h : zs[j]? = some z) : (cutL x zs)[j]? = some (x + sumI (zs.take j), z) := by
  induction zs generalizing x j with
  | nil => simp at h
  | cons y r ih =>
    cases j with
    | zero => simp at h; subst h; simp [cutL, sumI]
    | succ j =>
      have h1 := ih (x + y) j (by simpa using h)
      simp only [cutL, List.getElem?_cons_succ, List.take_succ_cons, sumI]
      rw [h1]
      congr 2
      omega
/-- the memory when j objects are laid -/
def memJ (F : DO → List Int) (ts : List Tk) (ds : List DO) (n j : Nat) : List Int := (zerosT ts ++ (ds.take j).flatMap F) ++ List.replicate (n - (zerosT ts ++ (ds.take j).flatMap F).length) 0
theorem memJ_len {F : DO → List Int} {ts : List Tk} {ds : List DO} {n j : Nat} (h : (zerosT ts ++ (ds.take j).flatMap F).length ≤ n) : (memJ F ts ds n j).length = n := by
  unfold memJ
  rw [List.length_append, List.length_replicate]
  omega
theorem memJ_next {F : DO → List Int} {ts : List Tk} {ds : List DO} {n j : Nat} {d : DO} (hd : ds[j]? = some d) (h : (zerosT ts ++ (ds.take (j + 1)).flatMap F).length ≤ n) :
    fillL (memJ F ts ds n j) (zerosT ts ++ (ds.take j).flatMap F).length (F d) = memJ F ts ds n (j + 1) := by
  have h1 := take_flat F hd
  rw [h1] at h
  simp only [List.length_append] at h
  unfold fillL memJ
  rw [h1, List.take_left, ← List.drop_drop, List.drop_left, List.drop_replicate]
  simp only [List.append_assoc]
  congr 3
  congr 1
  simp only [List.length_append]
  omega
set_option maxHeartbeats 16000000 in
theorem Lay_no (ta : Option Addr) (tc : Nat) (oa : Option Addr) (oc : Nat) (ts : List Tk) (ds : List DO) (F : DO → List Int) (W : World) (hT : ReadsT W (.slice ta ts.length tc) ts) (hO : ReadsDO W (.slice oa ds.length oc) ds) (hw : ∀ d ∈ ds, d.o.W) (hl : ts.length ≤ 1000 ∧ ds.length ≤ 1000) (hc : ofCode ts (ds.map DO.o) ≠ 0) :
    Calls Try.prog 26 #[.agg #[.slice ta ts.length tc, .slice oa ds.length oc]] W fun e W' => e = .returned (.tuple #[.pointer none, .agg #[.slice none 0 0, .slice none 0 0, .int .i64 0], .int .i64 (ofCode ts (ds.map DO.o))]) ∧ Chg [] W W' := by
  have hOf := fun V (h : Chg [] W V) => Of_all ta ts.length tc oa ds.length oc ts (ds.map DO.o) V (hT.chg h) (hO.1.chg h) (fun o ho => by obtain ⟨d, hd, rfl⟩ := List.mem_map.1 ho; exact hw d hd) (by rw [List.length_map]; exact hl)
  have HCA : Hid (Chg [] W ((W.alloc (.cells #[.slice ta ts.length tc, .slice oa ds.length oc] 49)).alloc (.cells #[.slice none 0 0, .slice none 0 0, .int .i64 0] 53))) := Lib.hid (((Chg.refl _ _).alloc _).alloc _)
  have HBX2 : Hid (Blk ((W.alloc (.cells #[.slice ta ts.length tc, .slice oa ds.length oc] 49)).alloc (.cells #[.slice none 0 0, .slice none 0 0, .int .i64 0] 53)) W.heap.size #[.slice ta ts.length tc, .slice oa ds.length oc] 49) := Lib.hid ((Blk.new W _ _).alloc _)
  have HBR2 : Hid (Blk ((W.alloc (.cells #[.slice ta ts.length tc, .slice oa ds.length oc] 49)).alloc (.cells #[.slice none 0 0, .slice none 0 0, .int .i64 0] 53)) (W.heap.size + 1) #[.slice none 0 0, .slice none 0 0, .int .i64 0] 53) := Lib.hid (by have := Blk.new (W.alloc (.cells #[.slice ta ts.length tc, .slice oa ds.length oc] 49)) #[.slice none 0 0, .slice none 0 0, .int .i64 0] 53; rwa [show (W.alloc (.cells #[.slice ta ts.length tc, .slice oa ds.length oc] 49)).heap.size = W.heap.size + 1 by simp] at this)
  have HOF := Lib.hid hOf
  have e1 : ofOwn ts (ds.map DO.o) = [] := by unfold ofOwn; rw [if_neg hc]
  have e2 : ofObjs ts (ds.map DO.o) = [] := by unfold ofObjs; rw [if_neg hc]
  have e3 : ofSize ts (ds.map DO.o) = 0 := by unfold ofSize; rw [if_neg hc]
  rw [e1, e2, e3] at HOF
  obtain ⟨cd, hcd⟩ : ∃ cd, ofCode ts (ds.map DO.o) = cd := ⟨_, rfl⟩
  rw [hcd] at HOF hc ⊢
  have hcb : (cd == 0) = false := by simpa using hc
  have hcn : (cd != 0) = true := by simpa using hc
  clear hOf hT hO hw hl hc e1 e2 e3 hcd
  go_enter Try.func26, Try.ntmps26
  go_wp2_with (first | (go_at_call 22; refine (HOF.out _ HCA.out).mono ?_; rintro e wO ⟨a1, c1, a2, c2, rfl, hr1, hr2, hc⟩; have HCO := Lib.hid hc; have HBRo := Lib.hid ((HBR2.out.keep hc (by simp)).alloc (.cells #[.slice a1 0 c1, .slice a2 0 c2, .int .i64 0] 53)); clear hr1 hr2 hc) | (refine Go.Proofs.Ytjplamoofkcojaa.blk.wpList_store_blk rfl 53 (.tmp 3) (.tmp 18) rfl (W.heap.size + 1) #[.slice none 0 0, .slice none 0 0, .int .i64 0] rfl rfl HBRo.out szLayout rfl (by simp [Value.oneCell']) ?_; intro w9 hb9 hc9; have HB9 := Lib.hid hb9; have HC9 := Lib.hid hc9; clear hb9 hc9))
  refine bodyPost_ret (results_t_row_t rfl _ _ (W.heap.size + 1) 53 #[.slice none 0 0, .slice none 0 0, .int .i64 0] (0, 0) _ rfl HB9.out Try.underlying53 rfl szLayout) rfl ?_
  exact ⟨rfl, ((HCA.out.trans HCO.out).alloc _).into HC9.out (fun y hy => .inr (by simp at hy; omega))⟩
set_option maxHeartbeats 32000000 in
theorem Lay_ok (ta : Option Addr) (tc : Nat) (oa : Option Addr) (oc : Nat) (ts : List Tk) (ds : List DO) (F : DO → List Int) (W : World) (hT : ReadsT W (.slice ta ts.length tc) ts) (hO : ReadsDO W (.slice oa ds.length oc) ds) (hw : ∀ d ∈ ds, d.o.W) (hl : ts.length ≤ 1000 ∧ ds.length ≤ 1000) (hc : ofCode ts (ds.map DO.o) = 0) (hF : ∀ d ∈ ds, LF F d) (n : Nat) (hn : (n : Int) = ofSize ts (ds.map DO.o)) :
    Calls Try.prog 26 #[.agg #[.slice ta ts.length tc, .slice oa ds.length oc]] W fun e W' => ∃ b g a1 c1 a2 c2, e = .returned (.tuple #[.pointer (some ⟨b, 0, none⟩), .agg #[.slice a1 (ofOwn ts (ds.map DO.o)).length c1, .slice a2 (ofObjs ts (ds.map DO.o)).length c2, .int .i64 (n : Int)], .int .i64 0]) ∧ MemAt W' b (.slice (some ⟨g, 0, none⟩) n n) (zerosT ts ++ ds.flatMap F) 0 ∧ Reads W' 2 (.slice a1 (ofOwn ts (ds.map DO.o)).length c1) (ofOwn ts (ds.map DO.o)).length ((ofOwn ts (ds.map DO.o)).flatMap rcells) ∧ Reads W' 2 (.slice a2 (ofObjs ts (ds.map DO.o)).length c2) (ofObjs ts (ds.map DO.o)).length ((ofObjs ts (ds.map DO.o)).flatMap rcells) ∧ Chg [] W W' := by
  have hOf := fun V (h : Chg [] W V) => Of_all ta ts.length tc oa ds.length oc ts (ds.map DO.o) V (hT.chg h) (hO.1.chg h) (fun o ho => by obtain ⟨d, hd, rfl⟩ := List.mem_map.1 ho; exact hw d hd) (by rw [List.length_map]; exact hl)
  have HCA : Hid (Chg [] W ((W.alloc (.cells #[.slice ta ts.length tc, .slice oa ds.length oc] 49)).alloc (.cells #[.slice none 0 0, .slice none 0 0, .int .i64 0] 53))) := Lib.hid (((Chg.refl _ _).alloc _).alloc _)
  have HBX2 : Hid (Blk ((W.alloc (.cells #[.slice ta ts.length tc, .slice oa ds.length oc] 49)).alloc (.cells #[.slice none 0 0, .slice none 0 0, .int .i64 0] 53)) W.heap.size #[.slice ta ts.length tc, .slice oa ds.length oc] 49) := Lib.hid ((Blk.new W _ _).alloc _)
  have HBR2 : Hid (Blk ((W.alloc (.cells #[.slice ta ts.length tc, .slice oa ds.length oc] 49)).alloc (.cells #[.slice none 0 0, .slice none 0 0, .int .i64 0] 53)) (W.heap.size + 1) #[.slice none 0 0, .slice none 0 0, .int .i64 0] 53) := Lib.hid (by have := Blk.new (W.alloc (.cells #[.slice ta ts.length tc, .slice oa ds.length oc] 49)) #[.slice none 0 0, .slice none 0 0, .int .i64 0] 53; rwa [show (W.alloc (.cells #[.slice ta ts.length tc, .slice oa ds.length oc] 49)).heap.size = W.heap.size + 1 by simp] at this)
  have HOF := Lib.hid hOf
  rw [hc, ← hn] at HOF
  have hlk : lensOk ts (ds.map DO.o) = true ∧ sumI (lensL ts (ds.map DO.o)) ≤ 4096 := by
    unfold ofCode at hc
    by_cases h : lensOk ts (ds.map DO.o) = true
    · rw [if_pos h] at hc
      by_cases h2 : sumI (lensL ts (ds.map DO.o)) ≤ 4096
      · exact ⟨h, h2⟩
      · rw [if_neg h2] at hc; cases hc
    · rw [if_neg h] at hc; cases hc
  have hgood : ts.all Tk.good = true := by have h := hlk.1; unfold lensOk at h; rw [Bool.and_eq_true] at h; exact h.1
  have hsz : ofSize ts (ds.map DO.o) = sumI (lensL ts (ds.map DO.o)) := by unfold ofSize; rw [if_pos hc]
  have hobj : ofObjs ts (ds.map DO.o) = cutL (sumI (ts.map Tk.own)) ((ds.map DO.o).map Ob.size) := by
    unfold ofObjs lensL
    rw [if_pos hc, cutL_append, Int.zero_add, List.drop_left' (by rw [cutL_length, List.length_map])]
  have HOB := Lib.hid hobj
  have hlen : ∀ j, (((zerosT ts ++ (ds.take j).flatMap F).length : Nat) : Int) = sumI (ts.map Tk.own) + sumI ((((ds.map DO.o).map Ob.size)).take j) := fun j => by
    have h1 := zerosT_len hgood
    have h2 := words_len (F := F) (ds := ds.take j) (fun d hd => hF d (List.mem_of_mem_take hd))
    rw [List.length_append, List.map_map, ← List.map_take]
    have h4 : sumI (List.map (Ob.size ∘ DO.o) (List.take j ds)) = sumI (List.map (fun d => d.o.size) (List.take j ds)) := rfl
    omega
  have HLEN := Lib.hid hlen
  have hle : ∀ j, (zerosT ts ++ (ds.take j).flatMap F).length ≤ n := fun j => by
    have h1 := hlen j
    have h2 : sumI ((((ds.map DO.o).map Ob.size)).take j) ≤ sumI ((ds.map DO.o).map Ob.size) := sumI_le (by
      intro z hz
      obtain ⟨o, ho, rfl⟩ := List.mem_map.1 hz
      have := o.size_bd
      omega) j
    rw [hsz] at hn
    unfold lensL at hn
    rw [sumI_append] at hn
    omega
  have HLE := Lib.hid hle
  have hfull : memJ F ts ds n ds.length = zerosT ts ++ ds.flatMap F := by
    have h1 := hlen ds.length
    rw [hsz] at hn
    unfold lensL at hn
    rw [sumI_append] at hn
    rw [List.take_of_length_le (by simp : ((ds.map DO.o).map Ob.size).length ≤ ds.length)] at h1
    rw [List.take_length] at h1
    unfold memJ
    rw [List.take_length, show n - (zerosT ts ++ ds.flatMap F).length = 0 by omega, List.replicate_zero, List.append_nil]
  have HFUL := Lib.hid hfull
  have hz0 : memJ F ts ds n 0 = List.replicate n 0 := by
    have h1 : zerosT ts = List.replicate (zerosT ts).length 0 := List.eq_replicate_of_mem (fun z hz => by
      unfold zerosT at hz
      obtain ⟨t, _, ht⟩ := List.mem_flatMap.1 hz
      exact List.eq_of_mem_replicate ht)
    have h2 := hle 0
    unfold memJ
    simp only [List.take_zero, List.flatMap_nil, List.append_nil] at h2 ⊢
    rw [h1, List.length_replicate, List.replicate_append_replicate]
    congr 1
    omega
  have HZ0 := Lib.hid hz0
  have hn4 : n ≤ 4096 := by rw [hsz] at hn; have := hlk.2; omega
  have HN4 := Lib.hid hn4
  have HFF := Lib.hid hF
  have HL : Hid (ts.length ≤ 1000 ∧ ds.length ≤ 1000) := Lib.hid hl
  have hO1 := hO.1
  unfold ReadsO at hO1
  rw [List.length_map] at hO1
  obtain ⟨b2, o2, hx2, hc2, -⟩ := reads_index (P := Try.prog) Try.underlying47 szObj hO1
  have HX2 := Lib.hid hx2
  have HCL2 := Lib.hid hc2
  have HOD := Lib.hid hO.2
  obtain ⟨rs, hrs⟩ : ∃ rs, ofOwn ts (ds.map DO.o) = rs := ⟨_, rfl⟩
  obtain ⟨ps, hps⟩ : ∃ ps, ofObjs ts (ds.map DO.o) = ps := ⟨_, rfl⟩
  rw [hrs, hps] at HOF ⊢
  rw [hps] at HOB
  clear hOf hT hO hw hl hc hn hlk hgood hsz hobj hlen hle hfull hz0 hF hO1 hx2 hc2 hrs hps
  go_enter Try.func26, Try.ntmps26
  go_upto_region 5 with (first | (go_at_call 22; refine (HOF.out _ HCA.out).mono ?_; rintro e wO ⟨a1, c1, a2, c2, rfl, hr1, hr2, hc⟩; have HOR1 := Lib.hid hr1; have HOR2 := Lib.hid hr2; have HCO := Lib.hid hc; have HLB0 : Hid (Blk (wO.alloc (.cells #[.slice a1 rs.length c1, .slice a2 ps.length c2, .int .i64 (n : Int)] 53)) wO.heap.size #[.slice a1 rs.length c1, .slice a2 ps.length c2, .int .i64 (n : Int)] 53) := Lib.hid (Blk.new wO _ _); clear hr1 hr2 hc) | (go_at_call 54; refine (New_at n _ HN4.out).mono ?_; rintro e wM ⟨mb, g, rfl, hm, hc, hb, hg⟩; have HM0 := Lib.hid hm; have HCM := Lib.hid hc; have HBG := Lib.hid (show wO.heap.size + 1 ≤ mb ∧ wO.heap.size + 1 ≤ g from ⟨by simpa using hb, by simpa using hg⟩); clear hm hc hb hg))
  have HWO : Hid (Chg [] W wO) := Lib.hid (HCA.out.trans HCO.out)
  have HOM : Hid (Chg [] wO wM) := Lib.hid (((Chg.refl [] wO).alloc _).trans HCM.out)
  have HLB := Lib.hid (HLB0.out.keep HCM.out (by simp))
  have HBX := Lib.hid ((HBX2.out.keep HCO.out (by simp)).keep HOM.out (by simp))
  have HBR := Lib.hid ((HBR2.out.keep HCO.out (by simp)).keep HOM.out (by simp))
  have HSR : Hid (W.heap.size + 1 < wO.heap.size) := Lib.hid (HBR2.out.keep HCO.out (by simp)).lt
  obtain ⟨b4, o4, hx4, hc4, -⟩ := reads_index (P := Try.prog) Try.underlying51 szReg (Reads.of_own HOR2.out (by decide))
  have HX4 := Lib.hid hx4
  have HCL4 := Lib.hid hc4
  have HM1 : Hid (MemAt wM mb (.slice (some ⟨g, 0, none⟩) n n) (memJ F ts ds n 0) 0) := Lib.hid (by rw [HZ0.out]; exact HM0.out)
  have e1 := HBX.out.cell (o := 1) rfl
  clear hx4 hc4
  go_wp2_with fail
  clear e1
  go_loopw [29] (fun i wr => ∃ j : Nat, j ≤ ds.length ∧ i = .int .i64 j ∧ Hid (MemAt wr mb (.slice (some ⟨g, 0, none⟩) n n) (memJ F ts ds n j) 0) ∧ Hid (Chg [g] wM wr)) (fun i _ => ds.length - (intOf i).toNat)
  case atStart => exact ⟨0, Nat.zero_le _, rfl, HM1, Lib.hid (Chg.refl _ _)⟩
  case round =>
    clear HM1
    obtain ⟨j, hj, rfl, HMJ, HJ⟩ := hrel
    obtain ⟨wo, rfl⟩ : ∃ wo : World, wo = wr := ⟨_, rfl⟩
    have HJO : Hid (Chg [] wO wo) := Lib.hid (HOM.out.into HJ.out (fun y hy => .inr (by have := HBG.out; simp at hy; omega)))
    have HLBo := Lib.hid (HLB.out.keep HJ.out (by have := HBG.out; simp; omega))
    by_cases hlt : j < ds.length
    · have HLT := Lib.hid hlt
      have g1 := HX2.out j hlt
      obtain ⟨⟨⟨k, w, s, c, st, ia, il, ic, wri, qa, ql, qc⟩, ini, rds⟩, htk⟩ : ∃ t, ds[j]? = some t := ⟨_, List.getElem?_eq_getElem hlt⟩
      have q0 := (HWO.out.trans HJO.out).keep (HCL2.out (j * 8 + 0) _ (by rw [flat_get8 ds j 0 (by decide) _ htk]; rfl)) (by simp)
      have q1 := (HWO.out.trans HJO.out).keep (HCL2.out (j * 8 + 1) _ (by rw [flat_get8 ds j 1 (by decide) _ htk]; rfl)) (by simp)
      have q2 := (HWO.out.trans HJO.out).keep (HCL2.out (j * 8 + 2) _ (by rw [flat_get8 ds j 2 (by decide) _ htk]; rfl)) (by simp)
      have q3 := (HWO.out.trans HJO.out).keep (HCL2.out (j * 8 + 3) _ (by rw [flat_get8 ds j 3 (by decide) _ htk]; rfl)) (by simp)
      have q4 := (HWO.out.trans HJO.out).keep (HCL2.out (j * 8 + 4) _ (by rw [flat_get8 ds j 4 (by decide) _ htk]; rfl)) (by simp)
      have q5 := (HWO.out.trans HJO.out).keep (HCL2.out (j * 8 + 5) _ (by rw [flat_get8 ds j 5 (by decide) _ htk]; rfl)) (by simp)
      have q6 := (HWO.out.trans HJO.out).keep (HCL2.out (j * 8 + 6) _ (by rw [flat_get8 ds j 6 (by decide) _ htk]; rfl)) (by simp)
      have q7 := (HWO.out.trans HJO.out).keep (HCL2.out (j * 8 + 7) _ (by rw [flat_get8 ds j 7 (by decide) _ htk]; rfl)) (by simp)
      rw [Nat.add_zero] at q0
      rw [← Nat.add_assoc] at q1 q2 q3 q4 q5 q6 q7
      have HK := Lib.hid htk
      have hLF := HFF.out _ (List.mem_of_getElem? htk)
      obtain ⟨LL, hLL⟩ : ∃ LL, F ⟨⟨k, w, s, c, st, ia, il, ic, wri, qa, ql, qc⟩, ini, rds⟩ = LL := ⟨_, rfl⟩
      unfold LF at hLF
      rw [hLL] at hLF
      have HLY := Lib.hid hLF
      have hnx := memJ_next (F := F) (ts := ts) htk (HLE.out (j + 1))
      rw [hLL] at hnx
      obtain ⟨aj, haj⟩ : ∃ aj, (zerosT ts ++ (ds.take j).flatMap F).length = aj := ⟨_, rfl⟩
      rw [haj] at hnx
      have HNX := Lib.hid hnx
      have hsj : ((ds.map DO.o).map Ob.size)[j]? = some (Ob.size ⟨k, w, s, c, st, ia, il, ic, wri, qa, ql, qc⟩) := by rw [List.getElem?_map, List.getElem?_map, htk]; rfl
      have hpj : ps[j]? = some ((aj : Int), Ob.size ⟨k, w, s, c, st, ia, il, ic, wri, qa, ql, qc⟩) := by
        rw [HOB.out, cutL_get _ _ j _ hsj, ← haj, HLEN.out j]
      have hjp : j < ps.length := (List.getElem?_eq_some_iff.1 hpj).1
      have g4 := HX4.out j hjp
      have HQ4 : Hid (wo.cell? ⟨b4, o4 + j * 2, none⟩ = some (.int .i64 (aj : Int))) := Lib.hid (HJO.out.keep (HCL4.out (j * 2 + 0) _ (by rw [flatMap_get rcells 2 (fun _ => rfl) ps j 0 (by decide) _ hpj]; rfl)) (by simp))
      have HAJ : Hid (aj + LL.length ≤ n) := Lib.hid (by
        have h1 := HLE.out (j + 1)
        rw [take_flat F htk, hLL, ← List.append_assoc, List.length_append, haj] at h1
        exact h1)
      have hj1000 : (j : Int) < 1000 := by have := HL.out; omega
      have k8 : IntKind.i64.wrap ((j : Int) + 1) = (j : Int) + 1 := by rw [IntKind.wrap_i64]; omega
      have HIN : Hid (ReadsW (wo.alloc (.cells #[.int .i64 k, .int .i64 w, .int .i64 s, .int .i64 c, .int .u32 st, .slice ia il ic, .int .i64 wri, .slice qa ql qc] 26)) (.slice ia il ic) ini) := Lib.hid ((HOD.out _ (List.mem_of_getElem? htk)).1.2.chg ((HWO.out.trans HJO.out).alloc _))
      clear htk hj hlt hLF hLL hnx haj hsj hpj hjp
      go_upto_region 8 with fail
      have e0 := (HLBo.out.alloc (.cells #[.int .i64 k, .int .i64 w, .int .i64 s, .int .i64 c, .int .u32 st, .slice ia il ic, .int .i64 wri, .slice qa ql qc] 26)).cell (o := 1) rfl
      have q4' := ((Chg.refl [] wo).alloc (.cells #[.int .i64 k, .int .i64 w, .int .i64 s, .int .i64 c, .int .u32 st, .slice ia il ic, .int .i64 wri, .slice qa ql qc] 26)).keep HQ4.out (by simp)
      have g0' := (Blk.new wo #[.int .i64 k, .int .i64 w, .int .i64 s, .int .i64 c, .int .u32 st, .slice ia il ic, .int .i64 wri, .slice qa ql qc] 26).cell (o := 0) rfl
      have g1' := (Blk.new wo #[.int .i64 k, .int .i64 w, .int .i64 s, .int .i64 c, .int .u32 st, .slice ia il ic, .int .i64 wri, .slice qa ql qc] 26).cell (o := 1) rfl
      have g2' := (Blk.new wo #[.int .i64 k, .int .i64 w, .int .i64 s, .int .i64 c, .int .u32 st, .slice ia il ic, .int .i64 wri, .slice qa ql qc] 26).cell (o := 2) rfl
      have g3' := (Blk.new wo #[.int .i64 k, .int .i64 w, .int .i64 s, .int .i64 c, .int .u32 st, .slice ia il ic, .int .i64 wri, .slice qa ql qc] 26).cell (o := 3) rfl
      have g4' := (Blk.new wo #[.int .i64 k, .int .i64 w, .int .i64 s, .int .i64 c, .int .u32 st, .slice ia il ic, .int .i64 wri, .slice qa ql qc] 26).cell (o := 4) rfl
      have g5' := (Blk.new wo #[.int .i64 k, .int .i64 w, .int .i64 s, .int .i64 c, .int .u32 st, .slice ia il ic, .int .i64 wri, .slice qa ql qc] 26).cell (o := 5) rfl
      have g6' := (Blk.new wo #[.int .i64 k, .int .i64 w, .int .i64 s, .int .i64 c, .int .u32 st, .slice ia il ic, .int .i64 wri, .slice qa ql qc] 26).cell (o := 6) rfl
      have g7' := (Blk.new wo #[.int .i64 k, .int .i64 w, .int .i64 s, .int .i64 c, .int .u32 st, .slice ia il ic, .int .i64 wri, .slice qa ql qc] 26).cell (o := 7) rfl
      have KEEP := Lib.hid (fun (V : World) (h : Chg [] (wo.alloc (.cells #[.int .i64 k, .int .i64 w, .int .i64 s, .int .i64 c, .int .u32 st, .slice ia il ic, .int .i64 wri, .slice qa ql qc] 26)) V) => (⟨h.keep e0 (by simp), h.keep q4' (by simp), h.keep g0' (by simp), h.keep g1' (by simp), h.keep g2' (by simp), h.keep g3' (by simp), h.keep g4' (by simp), h.keep g5' (by simp), h.keep g6' (by simp), h.keep g7' (by simp), Lib.hid h⟩ : (fun V : World => V.cell? ⟨wO.heap.size, 1, none⟩ = some (.slice a2 ps.length c2) ∧ V.cell? ⟨b4, o4 + j * 2, none⟩ = some (.int .i64 ((aj : Nat) : Int)) ∧ V.cell? ⟨wo.heap.size, 0, none⟩ = some (.int .i64 k) ∧ V.cell? ⟨wo.heap.size, 1, none⟩ = some (.int .i64 w) ∧ V.cell? ⟨wo.heap.size, 2, none⟩ = some (.int .i64 s) ∧ V.cell? ⟨wo.heap.size, 3, none⟩ = some (.int .i64 c) ∧ V.cell? ⟨wo.heap.size, 4, none⟩ = some (.int .u32 st) ∧ V.cell? ⟨wo.heap.size, 5, none⟩ = some (.slice ia il ic) ∧ V.cell? ⟨wo.heap.size, 6, none⟩ = some (.int .i64 wri) ∧ V.cell? ⟨wo.heap.size, 7, none⟩ = some (.slice qa ql qc) ∧ Hid (Chg [] (wo.alloc (.cells #[.int .i64 k, .int .i64 w, .int .i64 s, .int .i64 c, .int .u32 st, .slice ia il ic, .int .i64 wri, .slice qa ql qc] 26)) V)) V))
      clear e0 q4' g0' g1' g2' g3' g4' g5' g6' g7' q0 q1 q2 q3 q4 q5 q6 q7 g1
      have HD : Hid (Chg [] (wo.alloc (.cells #[.int .i64 k, .int .i64 w, .int .i64 s, .int .i64 c, .int .u32 st, .slice ia il ic, .int .i64 wri, .slice qa ql qc] 26)) (wo.alloc (.cells #[.int .i64 k, .int .i64 w, .int .i64 s, .int .i64 c, .int .u32 st, .slice ia il ic, .int .i64 wri, .slice qa ql qc] 26)).drew) := Lib.hid (Chg.refl _ _).drew
      have hHeld : (fun V : World => V.cell? ⟨wO.heap.size, 1, none⟩ = some (.slice a2 ps.length c2) ∧ V.cell? ⟨b4, o4 + j * 2, none⟩ = some (.int .i64 ((aj : Nat) : Int)) ∧ V.cell? ⟨wo.heap.size, 0, none⟩ = some (.int .i64 k) ∧ V.cell? ⟨wo.heap.size, 1, none⟩ = some (.int .i64 w) ∧ V.cell? ⟨wo.heap.size, 2, none⟩ = some (.int .i64 s) ∧ V.cell? ⟨wo.heap.size, 3, none⟩ = some (.int .i64 c) ∧ V.cell? ⟨wo.heap.size, 4, none⟩ = some (.int .u32 st) ∧ V.cell? ⟨wo.heap.size, 5, none⟩ = some (.slice ia il ic) ∧ V.cell? ⟨wo.heap.size, 6, none⟩ = some (.int .i64 wri) ∧ V.cell? ⟨wo.heap.size, 7, none⟩ = some (.slice qa ql qc) ∧ Hid (Chg [] (wo.alloc (.cells #[.int .i64 k, .int .i64 w, .int .i64 s, .int .i64 c, .int .u32 st, .slice ia il ic, .int .i64 wri, .slice qa ql qc] 26)) V)) (wo.alloc (.cells #[.int .i64 k, .int .i64 w, .int .i64 s, .int .i64 c, .int .u32 st, .slice ia il ic, .int .i64 wri, .slice qa ql qc] 26)).drew := KEEP.out _ HD.out
      refine wp_region_planT (fun V : World => V.cell? ⟨wO.heap.size, 1, none⟩ = some (.slice a2 ps.length c2) ∧ V.cell? ⟨b4, o4 + j * 2, none⟩ = some (.int .i64 ((aj : Nat) : Int)) ∧ V.cell? ⟨wo.heap.size, 0, none⟩ = some (.int .i64 k) ∧ V.cell? ⟨wo.heap.size, 1, none⟩ = some (.int .i64 w) ∧ V.cell? ⟨wo.heap.size, 2, none⟩ = some (.int .i64 s) ∧ V.cell? ⟨wo.heap.size, 3, none⟩ = some (.int .i64 c) ∧ V.cell? ⟨wo.heap.size, 4, none⟩ = some (.int .u32 st) ∧ V.cell? ⟨wo.heap.size, 5, none⟩ = some (.slice ia il ic) ∧ V.cell? ⟨wo.heap.size, 6, none⟩ = some (.int .i64 wri) ∧ V.cell? ⟨wo.heap.size, 7, none⟩ = some (.slice qa ql qc) ∧ Hid (Chg [] (wo.alloc (.cells #[.int .i64 k, .int .i64 w, .int .i64 s, .int .i64 c, .int .u32 st, .slice ia il ic, .int .i64 wri, .slice qa ql qc] 26)) V)) 9 [(0, true, some 34), (1, true, some 35), (2, true, some 36), (3, true, some 37), (4, true, some 38), (5, true, some 39), (6, true, some 40), (7, true, some 41), (8, false, some 42)] (by kernel_rfl) (by kernel_rfl) (by kernel_rfl) (by kernel_rfl) (by kernel_rfl) (fun d c a v w h => by cases d <;> exact h) hHeld ?_
      clear hHeld
      (repeat (refine planT_read (v := ?_) rfl rfl ?_ ?_ ?_; rotate_left; (focus rfl); (focus (intro u hSw; (try dsimp only at hSw); go_simp; (try with_reducible rfl); done)); ((try dsimp only); (try simp only [Act.put, List.setIfInBounds_toArray, List.set_cons_zero, List.set_cons_succ]))))
      refine planT_do rfl rfl ?_ (fun K hK => ?_)
      · rfl
      go_simp
      go_wp2_with (go_at_call 56; refine (HLY.out.1 _ (HIN.out.chg HD.out)).mono ?_; rintro e wl ⟨vl, rfl, ho, hc⟩; have HOL := Lib.hid ho; have HCY : Hid (Chg [] (wo.alloc (.cells #[.int .i64 k, .int .i64 w, .int .i64 s, .int .i64 c, .int .u32 st, .slice ia il ic, .int .i64 wri, .slice qa ql qc] 26)) wl) := Lib.hid (HD.out.trans hc); clear ho hc)
      refine hK.out _ _ (KEEP.out _ HCY.out) (fun _ => ?_)
      clear hK K KEEP
      ((try dsimp only); (try simp only [Act.put, List.setIfInBounds_toArray, List.set_cons_zero, List.set_cons_succ]))
      have HMl := Lib.hid (HMJ.out.fresh (((Chg.refl [] wo).alloc _).trans HCY.out))
      have HRL := Lib.hid (OwnW.reads HOL.out HLY.out.2.2.2)
      have hlm : (memJ F ts ds n j).length = n := memJ_len (HLE.out j)
      have HFI := Lib.hid (fun (h : MemAt wl mb (.slice (some ⟨g, 0, none⟩) n n) (memJ F ts ds n j) 0) => by have h9 := Fill_ok mb g n (memJ F ts ds n j) LL 0 aj vl wl (by rw [hlm]; exact h) HRL.out (by rw [hlm]; exact HAJ.out); rw [hlm, HNX.out] at h9; exact h9)
      clear hlm
      refine planT_last rfl ?_ (fun K hK => ?_)
      · rfl
      go_simp
      go_wp2_with (go_at_call 55; refine (HFI.out HMl.out).mono ?_; rintro e wf ⟨rfl, hm, hc⟩; have HMf := Lib.hid hm; have HCf := Lib.hid (((HJ.out.alloc (.cells #[.int .i64 k, .int .i64 w, .int .i64 s, .int .i64 c, .int .u32 st, .slice ia il ic, .int .i64 wri, .slice qa ql qc] 26)).fresh HCY.out).trans hc); clear hm hc)
      refine hK.out _ _ ?_
      clear hK K
      ((try dsimp only); (try simp only [Act.put, List.setIfInBounds_toArray, List.set_cons_zero, List.set_cons_succ]))
      go_wp2_with fail
      have hltj := HLT.out
      go_roundw
      case rel => exact ⟨j + 1, by omega, by go_num, HMf, HCf⟩
      case measure => simp [intOf]; omega
    · obtain rfl : j = ds.length := by omega
      clear hlt hj
      have HBRo := Lib.hid (HBR.out.keep HJ.out (by have := HBG.out; have := HSR.out; simp; omega))
      have e0 := HLBo.out.cell (o := 0) rfl
      have e1 := HLBo.out.cell (o := 1) rfl
      have e2 := HLBo.out.cell (o := 2) rfl
      have KEEP := Lib.hid (fun (V : World) (h : Chg [W.heap.size + 1] wo V) => (⟨h.keep e0 (by have := HSR.out; simp; omega), h.keep e1 (by have := HSR.out; simp; omega), h.keep e2 (by have := HSR.out; simp; omega), Lib.hid h⟩ : (fun V : World => V.cell? ⟨wO.heap.size, 0, none⟩ = some (.slice a1 rs.length c1) ∧ V.cell? ⟨wO.heap.size, 1, none⟩ = some (.slice a2 ps.length c2) ∧ V.cell? ⟨wO.heap.size, 2, none⟩ = some (.int .i64 (n : Int)) ∧ Hid (Chg [W.heap.size + 1] wo V)) V))
      clear e0 e1 e2
      go_upto_region 10 with fail
      have hHeld : (fun V : World => V.cell? ⟨wO.heap.size, 0, none⟩ = some (.slice a1 rs.length c1) ∧ V.cell? ⟨wO.heap.size, 1, none⟩ = some (.slice a2 ps.length c2) ∧ V.cell? ⟨wO.heap.size, 2, none⟩ = some (.int .i64 (n : Int)) ∧ Hid (Chg [W.heap.size + 1] wo V)) wo.drew := KEEP.out _ (Chg.refl _ _).drew
      refine wp_region_plan (fun V : World => V.cell? ⟨wO.heap.size, 0, none⟩ = some (.slice a1 rs.length c1) ∧ V.cell? ⟨wO.heap.size, 1, none⟩ = some (.slice a2 ps.length c2) ∧ V.cell? ⟨wO.heap.size, 2, none⟩ = some (.int .i64 (n : Int)) ∧ Hid (Chg [W.heap.size + 1] wo V)) [(0, true, some 45), (1, true, some 46), (2, true, some 2), (3, false, none), (4, true, some 4)] (by kernel_rfl) (by kernel_rfl) (by kernel_rfl) (by kernel_rfl) (fun d c a v w h => by cases d <;> exact h) hHeld ?_
      clear hHeld
      (repeat (refine planWp_read (v := ?_) rfl rfl ?_ ?_ ?_; rotate_left; (focus rfl); (focus (intro u hSw; (try dsimp only at hSw); go_simp; (try with_reducible rfl); done)); (try simp only [Act.put, List.setIfInBounds_toArray, List.set_cons_zero, List.set_cons_succ])))
      refine planWp_do rfl rfl ?_ (fun K hK => ?_)
      · rfl
      refine Go.Proofs.Ytjplamoofkcojaa.blk.wp_store_blk 53 (.tmp 3) (.tmp 46) rfl (W.heap.size + 1) #[.slice a1 rs.length c1, .slice a2 ps.length c2, .int .i64 (n : Int)] rfl rfl HBRo.out.drew szLayout rfl (by simp [Value.oneCell']) ?_
      intro w9 hb9 hc9
      have HB9 := Lib.hid hb9
      have HC9 : Hid (Chg [W.heap.size + 1] wo w9) := Lib.hid ((Chg.refl _ _).drew.trans hc9)
      refine hK.out _ _ (KEEP.out _ HC9.out) (fun hHeld => ?_)
      clear hK K hb9 hc9 hHeld KEEP
      (repeat (refine planWp_read (v := ?_) rfl rfl ?_ ?_ ?_; rotate_left; (focus rfl); (focus (intro u hSw; (try dsimp only at hSw); go_simp; (try with_reducible rfl); done)); (try simp only [Act.put, List.setIfInBounds_toArray, List.set_cons_zero, List.set_cons_succ])))
      refine planWp_nil ?_
      go_wp2_with fail
      refine bodyPost_ret (results_t_row_t rfl _ _ (W.heap.size + 1) 53 #[.slice a1 rs.length c1, .slice a2 ps.length c2, .int .i64 (n : Int)] (0, 0) _ rfl HB9.out Try.underlying53 rfl szLayout) rfl ?_
      refine ⟨mb, g, a1, c1, a2, c2, rfl, ?_, ?_, ?_, (HWO.out.trans HJO.out).into HC9.out (fun y hy => .inr (by simp at hy; omega))⟩
      · have h9 := HMJ.out.keep HC9.out (by have := HBG.out; have := HSR.out; simp; omega) (fun z hz => by simp only [Value.ownBlock, Option.some.injEq] at hz; have := HBG.out; have := HSR.out; simp; omega)
        rw [HFUL.out] at h9
        exact h9
      · exact Reads.of_own (mem.own_chg (mem.own_chg HOR1.out HJO.out (by simp)) HC9.out (fun y hy => by have h8 := (World.ownsRow.lt HOR1.out y hy).1; simp at h8 ⊢; omega)) (by decide)
      · exact Reads.of_own (mem.own_chg (mem.own_chg HOR2.out HJO.out (by simp)) HC9.out (fun y hy => by have h8 := (World.ownsRow.lt HOR2.out y hy).1; simp at h8 ⊢; omega)) (by decide)
end Go.Proofs.Ytjplamoofkcojaa.lay
