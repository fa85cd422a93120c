/- Images: the reference's Encode. -/
import Derived.Test.YtkmalnojkjmjiaaImgF
import Derived.Test.YtkmalnojkjmjiaaImgC
import Derived.Test.YtkmalnojkjmjiaaImgG
import Derived.Laws.OwnMore
namespace Go.Proofs.Ytkmalnojkjmjiaa.img
open Go Go.RowKit Go.Proofs.Ytkmalnojkjmjiaa.kit Go.Proofs.Ytkmalnojkjmjiaa.obj Go.Proofs.Ytkmalnojkjmjiaa.mem Go.Proofs.Ytkmalnojkjmjiaa.lay Go.Proofs.Ytkmalnojkjmjiaa.codec
set_option linter.unusedVariables false
set_option linter.unusedSimpArgs false
set_option maxRecDepth 100000
theorem lb1 {x : Int} (h : fit1 x) : leB x 1 = [x] := by
  unfold fit1 at h
  simp only [leB, List.nil_append, Int.pow_zero, Int.ediv_one]
  rw [Int.emod_eq_of_lt h.1 (by omega)]
theorem u8w {x : Int} (h : fit1 x) : IntKind.u8.wrap x = x := by
  unfold fit1 at h
  simp [IntKind.wrap, IntKind.signed, IntKind.bits]; omega
theorem own_ne {w : World} {B G : Nat} {v : Value} {zs : List Int} {c : Array Value} {T : TypeId} (h : OwnB w B v zs) (hb : Blk w G c T) (hT : T ≠ 5) : G ∉ v.ownBlock.toList := by
  intro hm
  rw [Option.mem_toList] at hm
  rcases h.2 with ⟨rfl, _⟩ | ⟨g, cap, cur, rfl, _, hg, _⟩
  · simp [Value.ownBlock] at hm
  · simp only [Value.ownBlock, Option.mem_def, Option.some.injEq] at hm
    subst hm
    have h9 := hb.symm.trans hg
    simp only [Option.some.injEq, Obj.cells.injEq] at h9
    exact hT h9.2.1
theorem wpList_app {w : World} {ops : Array Oper} {rest : List Oper} {o : Oper} {a : Act} {Q : Exit → Act → World → Prop} (hgd : o.guard = none) (s x : Operand) (ho : o.op = .call { callee := .builtin .append, args := #[s, x], argTypes := #[22, 22] })
    (B : Nat) (v : Value) (zs : List Int) (hs : a.eval s = v) (hown : OwnB w B v zs) (v2 : Value) (ys : List Int) (hx : a.eval x = v2) (hr : ReadsB w v2 ys) (hl : zs.length + ys.length ≤ 1000000) (hB : B ≤ w.heap.size)
    (h : ∀ v' w', OwnB w' B v' (zs ++ ys) → Chg v.ownBlock.toList w w' → wpList Try.prog ops Q rest (a.put o.dst v') w') : wpList Try.prog ops Q (o :: rest) a w := by
  obtain ⟨i0, hi, hz0, hz1, hz2⟩ := info_parts info5
  refine wpList_append_any w hgd s x 22 ho B 5 i0 (.int .u8 0) 1 1 Try.underlying22 hi hz0 hz1 hz2 rfl (by decide) v zs.length _ hs hown v2 ys.length _ hx hr.1 (ints_oneCell _ _) (by unfold maxLen; omega) (by omega) hB ?_
  intro v' w' h1 h2
  refine h v' w' ?_ ((Chg.refl _ _).grown h2 (fun y hy => .inl (Option.mem_toList.2 hy)))
  unfold OwnB
  rw [List.length_append, List.map_append]
  exact h1
theorem app_chg {w w1 w2 : World} {B : Nat} {v : Value} {zs : List Int} (h : Chg [] w w1) (ho : OwnB w1 B v zs) (hb : w.heap.size ≤ B) (k : Chg v.ownBlock.toList w1 w2) : Chg [] w w2 :=
  h.into k (fun y hy => .inr (Nat.le_trans hb (World.ownsRow.lt ho y (Option.mem_toList.1 hy)).1))
theorem lit8 (w : World) (c : Array Value) (zs : List Int) (hc : c.toList = zs.map (Value.int .u8)) (b n : Nat) (hb : b = w.heap.size) (hn : n = zs.length) (hm : zs.length ≤ 1000) (hw : BytesB zs) : ReadsB (w.alloc (.cells c 5)) (.slice (some ⟨b, 0, none⟩) n n) zs := by
  subst hb hn
  have h9 := reads_lit w c 5 zs.length (by rw [← Array.length_toList, hc, List.length_map]) (by unfold maxLen; omega)
  rw [hc] at h9
  exact ⟨h9, hw⟩
theorem own_lit8 (w : World) (B : Nat) (hB : B ≤ w.heap.size) (c : Array Value) (zs : List Int) (hc : c.toList = zs.map (Value.int .u8)) (b n : Nat) (hb : b = w.heap.size) (hn : n = zs.length) (hm : zs.length ≤ 1000) : OwnB (w.alloc (.cells c 5)) B (.slice (some ⟨b, 0, none⟩) n n) zs := by
  subst hb hn
  have h9 := World.ownsRow_lit (base := B) (e := 5) (size := 1) w c zs.length hB (by unfold maxLen; omega) (by rw [Nat.mul_one, ← Array.length_toList, hc, List.length_map])
  rw [hc] at h9
  exact h9
theorem encI_len (i : Ins) : (encI i).length = 8 := by simp [encI, leB_length]
theorem szInt : (Try.prog.info? 3).map (·.size) = some 1 := by kernel_rfl
theorem szU32 : (Try.prog.info? 49).map (·.size) = some 1 := by kernel_rfl
theorem fit_wf {x : Int} (h : fit1 x) : (Lit.int .u8 x).wf = true := by
  unfold fit1 at h
  simp [Lit.wf, IntKind.min, IntKind.max, IntKind.signed, IntKind.bits]; omega
set_option maxHeartbeats 4000000 in
theorem rbytes_any (n : Int) (many : Nat) (hn : 0 ≤ n ∧ n ≤ 4294967295) (hm : many ≤ 4) (W : World) :
    Calls Try.prog 36 #[.int .i64 n, .int .i64 many] W fun e W' => ∃ v, e = .returned v ∧ OwnB W' W.heap.size v (leB n many) ∧ Chg [] W W' := by
  have HN := Lib.hid hn
  have hm4 : (many : Int) ≤ 4 := by omega
  clear hn
  go_enter Try.func36, Try.ntmps36
  go_wp2_with fail
  go_loopw [0, 5, 6] (fun nv b i wr => ∃ (k : Nat) (y : Int), k ≤ many ∧ 0 ≤ y ∧ y ≤ 4294967295 ∧ i = .int .i64 k ∧ nv = .int .i64 y ∧ Hid (y = n / 256 ^ k) ∧ Hid (OwnB wr W.heap.size b (leB n k)) ∧ Hid (Chg [] W wr)) (fun _ _ i _ => many - (intOf i).toNat)
  case atStart => exact ⟨0, n, Nat.zero_le _, HN.out.1, HN.out.2, rfl, rfl, Lib.hid (by simp), Lib.hid (OwnB.nil _ _), Lib.hid (Chg.refl _ _)⟩
  case round =>
    obtain ⟨k, y, hk, hy0, hy1, rfl, rfl, HY, HO, HC⟩ := hrel
    obtain ⟨wo, rfl⟩ : ∃ wo : World, wo = wr := ⟨_, rfl⟩
    by_cases hlt : k < many
    · have HLT := Lib.hid hlt
      have hki : (k : Int) < (many : Int) := by omega
      have hb : fit1 (y % 256) := by unfold fit1; omega
      have HB := Lib.hid hb
      have k1 := u8w hb
      have k2 : IntKind.i64.wrap ((k : Int) + 1) = (k : Int) + 1 := by rw [IntKind.wrap_i64]; omega
      have HYB : Hid (0 ≤ y ∧ y ≤ 4294967295 ∧ 0 ≤ y / 256 ∧ y / 256 ≤ 4294967295) := Lib.hid (by omega)
      clear hb hk hlt
      go_wp2_with ((with_reducible show wpList _ _ _ (⟨some 17, _, _, _, _, _⟩ :: _) _ _); refine wpList_app (o := ⟨some 17, _, _, _, _, _⟩) rfl (.tmp 12) (.tmp 16) rfl W.heap.size _ _ rfl (mem.own_chg HO.out ((Chg.refl [] _).alloc _) (by simp)) _ [y % 256] rfl (lit8 wo #[.int .u8 (y % 256)] [y % 256] rfl _ 1 rfl rfl (by simp) (by intro x hx; simp at hx; subst hx; exact fit_wf HB.out)) (by have := HLT.out; rw [leB_length]; simp; omega) (by have := HC.out.size; simp; omega) ?_; intro v1 V1 ho hc; have HO1 := Lib.hid ho; have HC1 := Lib.hid (app_chg (HC.out.alloc _) (mem.own_chg HO.out ((Chg.refl [] _).alloc _) (by simp)) (Nat.le_refl _) hc); clear ho hc)
      have hyy := HYB.out
      have hll := HLT.out
      go_roundw
      case rel => exact ⟨k + 1, y / 256, by omega, by omega, by omega, by go_num, rfl, Lib.hid (by rw [HY.out, Int.pow_succ, Int.ediv_ediv_of_nonneg (by exact Int.le_of_lt (Int.pow_pos (by decide)))]), Lib.hid (by have h9 := HO1.out; rw [HY.out] at h9; exact h9), HC1⟩
      case measure => simp [intOf]; omega
    · obtain rfl : k = many := by omega
      clear hlt hk
      go_wp2_with fail
      go_ret
      exact ⟨_, rfl, HO.out, HC.out⟩
theorem rbytes4 (n : Int) (W : World) (hn : fit4 n) : Calls Try.prog 36 #[.int .i64 n, .int .i64 4] W fun e W' => ∃ v, e = .returned v ∧ OwnB W' W.heap.size v (leB n 4) ∧ Chg [] W W' := rbytes_any n 4 (by unfold fit4 at hn; omega) (by decide) W
theorem rbytes2 (n : Int) (W : World) (hn : 0 ≤ n ∧ n < 65536) : Calls Try.prog 36 #[.int .i64 n, .int .i64 2] W fun e W' => ∃ v, e = .returned v ∧ OwnB W' W.heap.size v (leB n 2) ∧ Chg [] W W' := rbytes_any n 2 (by omega) (by decide) W
theorem leB4 {n : Int} (h : fit4 n) : leB n 4 = [n % 256, n / 256 % 256, n / 65536 % 256, n / 16777216] := by
  unfold fit4 at h
  simp only [leB, List.nil_append, Int.pow_zero, Int.ediv_one, List.cons_append]
  have h1 : (256 : Int) ^ 2 = 65536 := by decide
  have h2 : (256 : Int) ^ 3 = 16777216 := by decide
  have h3 : (256 : Int) ^ 1 = 256 := by decide
  rw [h1, h2, h3, Int.emod_eq_of_lt (by omega : 0 ≤ n / 16777216) (by omega)]
set_option maxHeartbeats 4000000 in
theorem rIns_any (i : Ins) (hf : i.fit) (hn : fit4 i.n) (W : World) : Calls Try.prog 37 #[.agg #[.int .i64 i.op, .int .i64 i.a, .int .i64 i.b, .int .i64 i.c, .int .u32 i.n]] W fun e W' => ∃ v, e = .returned v ∧ ReadsB W' v (encI i) ∧ Chg [] W W' := by
  obtain ⟨op, a, b, c, n⟩ := i
  obtain ⟨h1, h2, h3, h4⟩ := hf
  dsimp only at h1 h2 h3 h4 hn ⊢
  have he : encI ⟨op, a, b, c, n⟩ = [op, a, b, c, n % 256, n / 256 % 256, n / 65536 % 256, n / 16777216] := by
    unfold encI
    dsimp only
    rw [lb1 h1, lb1 h2, lb1 h3, lb1 h4, leB4 hn]
    rfl
  have HWF : Hid (BytesB (encI ⟨op, a, b, c, n⟩)) := Lib.hid (encI_wf _)
  rw [he] at HWF ⊢
  have k1 := u8w h1
  have k2 := u8w h2
  have k3 := u8w h3
  have k4 := u8w h4
  unfold fit4 at hn
  obtain ⟨hn0, hn1⟩ := hn
  have m1 : IntKind.u8.wrap (n % 256) = n % 256 := u8w (by unfold fit1; omega)
  have m2 : IntKind.u8.wrap (n / 256 % 256) = n / 256 % 256 := u8w (by unfold fit1; omega)
  have m3 : IntKind.u8.wrap (n / 65536 % 256) = n / 65536 % 256 := u8w (by unfold fit1; omega)
  have m4 : IntKind.u8.wrap (n / 16777216) = n / 16777216 := u8w (by unfold fit1; omega)
  clear he h1 h2 h3 h4
  go_enter Try.func37, Try.ntmps37
  go_wp2_with fail
  go_ret
  exact ⟨_, rfl, lit8 _ _ _ rfl _ _ (by simp) rfl (by simp) HWF.out, ((Chg.refl _ _).alloc _).alloc _⟩
set_option maxHeartbeats 64000000 in
theorem rEncode_any (ta : Option Addr) (tc : Nat) (oa : Option Addr) (oc : Nat) (ts : List DT) (os : List DO) (W : World) (hT : ReadsDT W (.slice ta ts.length tc) ts) (hO : ReadsDO W (.slice oa os.length oc) os) (hl : ts.length ≤ 1000 ∧ os.length ≤ 1000) (hcl : (∀ d ∈ ts, d.code.length ≤ 1000) ∧ ∀ d ∈ os, d.ini.length ≤ 1000 ∧ d.rds.length ≤ 1000) :
    Calls Try.prog 14 #[.agg #[.slice ta ts.length tc, .slice oa os.length oc]] W fun e W' => ∃ v, e = .returned (.tuple #[v, .bool (hasI (ts.map DT.p) (os.map DO.p))]) ∧ OwnB W' W.heap.size v (imageOf (ts.map DT.p) (os.map DO.p)) ∧ Chg [] W W' := by
  obtain ⟨R, hR⟩ : ∃ R, hasI (ts.map DT.p) (os.map DO.p) = R := ⟨_, rfl⟩
  have HR := Lib.hid hR
  rw [hR]
  have hT1 := hT.1.1
  have hO1 := hO.1
  unfold ReadsO at hO1
  rw [rowsT_map, List.length_map] at hT1
  rw [rowsO_map, List.length_map] at hO1
  obtain ⟨b1, o1, hx1, hc1, -⟩ := reads_index (P := Try.prog) Try.underlying24 szTask hT1
  obtain ⟨b2, o2, hx2, hc2, -⟩ := reads_index (P := Try.prog) Try.underlying25 szObj hO1
  have HX1 := Lib.hid hx1
  have HCL1 := Lib.hid hc1
  have HX2 := Lib.hid hx2
  have HCL2 := Lib.hid hc2
  have HTD := Lib.hid hT.2
  have HOD := Lib.hid hO.2
  have HL : Hid ((ts.length : Int) ≤ 1000 ∧ (os.length : Int) ≤ 1000) := Lib.hid (by omega)
  have HCL := Lib.hid hcl
  have HCA : Hid (Chg [] W (W.alloc (.cells #[.slice ta ts.length tc, .slice oa os.length oc] 27))) := Lib.hid ((Chg.refl _ _).alloc _)
  have HBX : Hid (Blk (W.alloc (.cells #[.slice ta ts.length tc, .slice oa os.length oc] 27)) W.heap.size #[.slice ta ts.length tc, .slice oa os.length oc] 27) := Lib.hid (Blk.new W _ _)
  have HFT := Lib.hid (Room_any ta tc oa oc ts os (W.alloc (.cells #[.slice ta ts.length tc, .slice oa os.length oc] 27)) (hT.chg HCA.out) (hO.chg HCA.out) hl hcl)
  obtain ⟨FB, hFB⟩ : ∃ FB, decide (fitS (ts.map DT.p) (os.map DO.p)) = FB := ⟨_, rfl⟩
  rw [hFB] at HFT
  have HFB := Lib.hid hFB
  obtain ⟨X, hX⟩ : ∃ X, imageOf (ts.map DT.p) (os.map DO.p) = X := ⟨_, rfl⟩
  have HX := Lib.hid hX
  rw [hX]
  clear hT hO hT1 hO1 hx1 hx2 hc1 hc2 hR hl hcl hFB hX
  cases FB
  · have hno : hasI (ts.map DT.p) (os.map DO.p) = false := by unfold hasI; rw [HFB.out]; rfl
    obtain rfl : false = R := by rw [← HR.out, hno]
    obtain rfl : [] = X := by rw [← HX.out]; unfold imageOf; rw [hno]; rfl
    clear hno
    go_enter Try.func14, Try.ntmps14
    go_wp2_with (go_at_call 35; refine HFT.out.mono ?_; rintro e w1 ⟨rfl, hc⟩; have HC1' := Lib.hid (HCA.out.trans hc); clear hc)
    go_ret2
    exact ⟨_, rfl, OwnB.nil _ _, HC1'.out⟩
  have hfs : fitS (ts.map DT.p) (os.map DO.p) := of_decide_eq_true HFB.out
  have HFS := Lib.hid hfs
  have hf1 := hfs.1
  rw [List.length_map, List.length_map] at hf1
  have HF1 := Lib.hid hf1
  have kt := u8w hf1.1
  have ko := u8w hf1.2
  obtain ⟨B, hB⟩ : ∃ B, B = (W.alloc (.cells #[.slice ta ts.length tc, .slice oa os.length oc] 27)).heap.size := ⟨_, rfl⟩
  have HBE := Lib.hid hB
  have HBA : Hid ((W.alloc (.cells #[.slice ta ts.length tc, .slice oa os.length oc] 27)).heap.size ≤ B) := Lib.hid (by rw [hB]; exact Nat.le_refl _)
  clear hfs hf1 hB
  go_enter Try.func14, Try.ntmps14
  go_upto_region 4 with (go_at_call 35; refine HFT.out.mono ?_; rintro e w1 ⟨rfl, hc⟩; have HCF := Lib.hid hc; have e0 : w1.cell? ⟨W.heap.size, 0, none⟩ = some (.slice ta ts.length tc) := (HBX.out.keep hc (by simp)).cell rfl; have e1 : w1.cell? ⟨W.heap.size, 1, none⟩ = some (.slice oa os.length oc) := (HBX.out.keep hc (by simp)).cell rfl; clear hc)
  have HJ0 : Hid (Chg [] (W.alloc (.cells #[.slice ta ts.length tc, .slice oa os.length oc] 27)) (w1.alloc (.cells #[.int .u8 67, .int .u8 88, .int .u8 1, .int .u8 (ts.length : Int), .int .u8 (os.length : Int)] 5))) := Lib.hid (HCF.out.alloc _)
  have HO2 : Hid (OwnB (w1.alloc (.cells #[.int .u8 67, .int .u8 88, .int .u8 1, .int .u8 (ts.length : Int), .int .u8 (os.length : Int)] 5)) B (.slice (some ⟨w1.heap.size, 0, none⟩) 5 5) (hdr ts.length os.length)) := Lib.hid (by
    have h9 : hdr ts.length os.length = [67, 88, 1, (ts.length : Int), (os.length : Int)] := by
      unfold hdr
      rw [lb1 HF1.out.1, lb1 HF1.out.2]
      rfl
    rw [h9]
    exact own_lit8 w1 B (by rw [HBE.out]; exact HCF.out.size) _ _ rfl _ _ rfl rfl (by simp))
  have e2 := (HBX.out.keep HJ0.out (by simp)).cell (o := 0) rfl
  go_wp2_with fail
  clear e0 e1 e2 kt ko
  go_loopw [4, 30] (fun b i wr => ∃ j : Nat, j ≤ ts.length ∧ i = .int .i64 j ∧ Hid (OwnB wr B b (hdr ts.length os.length ++ ((ts.take j).map DT.p).flatMap encT)) ∧ Hid (Chg [] (W.alloc (.cells #[.slice ta ts.length tc, .slice oa os.length oc] 27)) wr)) (fun _ i _ => ts.length - (intOf i).toNat)
  case atStart => exact ⟨0, Nat.zero_le _, rfl, Lib.hid (by have := HO2.out; simpa using this), HJ0⟩
  case round =>
    clear HO2 HJ0
    obtain ⟨j, hj, rfl, HOJ, HJ⟩ := hrel
    obtain ⟨wo, rfl⟩ : ∃ wo : World, wo = wr := ⟨_, rfl⟩
    by_cases hlt : j < ts.length
    · have HLT := Lib.hid hlt
      have g1 := HX1.out j hlt
      obtain ⟨⟨⟨kind, prio, period, offset, deadline, own, ca, cl, cc⟩, code⟩, htk⟩ : ∃ t, ts[j]? = some t := ⟨_, List.getElem?_eq_getElem hlt⟩
      have q0 := (HCA.out.trans HJ.out).keep (HCL1.out (j * 7 + 0) _ (by rw [flatMap_get (fun d : DT => d.t.cells) 7 (fun _ => rfl) ts j 0 (by decide) _ htk]; rfl)) (by simp)
      have q1 := (HCA.out.trans HJ.out).keep (HCL1.out (j * 7 + 1) _ (by rw [flatMap_get (fun d : DT => d.t.cells) 7 (fun _ => rfl) ts j 1 (by decide) _ htk]; rfl)) (by simp)
      have q2 := (HCA.out.trans HJ.out).keep (HCL1.out (j * 7 + 2) _ (by rw [flatMap_get (fun d : DT => d.t.cells) 7 (fun _ => rfl) ts j 2 (by decide) _ htk]; rfl)) (by simp)
      have q3 := (HCA.out.trans HJ.out).keep (HCL1.out (j * 7 + 3) _ (by rw [flatMap_get (fun d : DT => d.t.cells) 7 (fun _ => rfl) ts j 3 (by decide) _ htk]; rfl)) (by simp)
      have q4 := (HCA.out.trans HJ.out).keep (HCL1.out (j * 7 + 4) _ (by rw [flatMap_get (fun d : DT => d.t.cells) 7 (fun _ => rfl) ts j 4 (by decide) _ htk]; rfl)) (by simp)
      have q5 := (HCA.out.trans HJ.out).keep (HCL1.out (j * 7 + 5) _ (by rw [flatMap_get (fun d : DT => d.t.cells) 7 (fun _ => rfl) ts j 5 (by decide) _ htk]; rfl)) (by simp)
      have q6 := (HCA.out.trans HJ.out).keep (HCL1.out (j * 7 + 6) _ (by rw [flatMap_get (fun d : DT => d.t.cells) 7 (fun _ => rfl) ts j 6 (by decide) _ htk]; rfl)) (by simp)
      rw [Nat.add_zero] at q0
      rw [← Nat.add_assoc] at q1 q2 q3 q4 q5 q6
      have hDR := HTD.out _ (List.mem_of_getElem? htk)
      obtain rfl : cl = code.length := hDR.len
      have HDR := Lib.hid hDR
      have HCC : Hid (code.length ≤ 1000) := Lib.hid (HCL.out.1 _ (List.mem_of_getElem? htk))
      have HK := Lib.hid htk
      have hj1000 : (j : Int) < 1000 := by have := HL.out; omega
      have k8 : IntKind.i64.wrap ((j : Int) + 1) = (j : Int) + 1 := by rw [IntKind.wrap_i64]; omega
      have HTF : Hid ((⟨kind, prio, period, offset, deadline, own, code⟩ : PTk).fit) := Lib.hid (HFS.out.2.1 _ (List.mem_map.2 ⟨_, List.mem_of_getElem? htk, rfl⟩))
      have HCW : Hid (∀ i ∈ code, fit4 i.n) := Lib.hid (hDR : ReadsC W (.slice ca code.length cc) code).2
      obtain ⟨b3, o3, hx3, hc3, -⟩ := reads_index (P := Try.prog) Try.underlying39 szIns (hDR : ReadsC W (.slice ca code.length cc) code).1
      have HX3 := Lib.hid hx3
      have HCL3 := Lib.hid hc3
      obtain ⟨zz, hzz⟩ : ∃ zz, hdr ts.length os.length ++ ((ts.take j).map DT.p).flatMap encT = zz := ⟨_, rfl⟩
      have HZZ := Lib.hid hzz
      have HBG : Hid (zz.length + 16 + 8 * code.length ≤ 900000) := Lib.hid (by
        have h1 := lenT (l := (ts.take j).map DT.p) (fun t ht => HFS.out.2.1 t (by rw [List.map_take] at ht; exact List.mem_of_mem_take ht))
        have h2 := HTF.out.1.2.2.2
        have h3 := HF1.out.1
        unfold fit1 at h3 h2
        dsimp only at h2
        rw [List.length_map, List.length_take] at h1
        rw [← hzz, List.length_append, hdr_len]
        omega)
      rw [hzz] at HOJ
      obtain ⟨f1, f2, f3, f4⟩ := HTF.out.1
      dsimp only at f1 f2 f3 f4
      have HF4 := Lib.hid (show fit1 kind ∧ fit1 prio ∧ fit1 own ∧ fit1 (code.length : Int) from ⟨f1, f2, f3, f4⟩)
      have HP4 := Lib.hid (show fit4 period ∧ fit4 offset ∧ fit4 deadline from HTF.out.2.1)
      have kw1 := u8w f1
      have kw2 := u8w f2
      have kw3 := u8w f3
      have kw4 := u8w f4
      clear htk hj hlt hDR hx3 hc3 hzz
      go_upto_region 7 with fail
      refine code_gen (R := fun V => Hid (Blk V wo.heap.size #[.int .i64 kind, .int .i64 prio, .int .i64 period, .int .i64 offset, .int .i64 deadline, .int .i64 own, .slice ca code.length cc] 41) ∧ Hid (OwnB V B u4 zz) ∧ Hid (Chg [] (W.alloc (.cells #[.slice ta ts.length tc, .slice oa os.length oc] 27)) V)) ⟨Lib.hid (Blk.new wo _ _), Lib.hid (mem.own_chg HOJ.out ((Chg.refl [] _).alloc _) (by simp)), Lib.hid (HJ.out.alloc _)⟩ ?_
      rintro V0 ⟨HB0, HO0, HC0⟩
      obtain ⟨G, hG⟩ : ∃ G, G = wo.heap.size := ⟨_, rfl⟩
      rw [← hG] at HB0 ⊢
      have e0 := HB0.out.cell (o := 0) rfl
      have e1 := HB0.out.cell (o := 1) rfl
      clear hG q0 q1 q2 q3 q4 q5 q6 g1
      go_upto_region 12 with (first | ((with_reducible show wpList _ _ _ (⟨some 67, _, _, _, _, _⟩ :: _) _ _); have how : OwnB (V4.alloc (.cells #[.int .u8 own, .int .u8 (code.length : Int)] 5)) B v4 ((((zz ++ [kind, prio]) ++ (leB period 4)) ++ (leB offset 4)) ++ (leB deadline 4)) := mem.own_chg HO4.out ((Chg.refl [] _).alloc _) (by simp); have hrd : ReadsB (V4.alloc (.cells #[.int .u8 own, .int .u8 (code.length : Int)] 5)) (.slice (some ⟨V4.heap.size, 0, none⟩) 2 2) [own, (code.length : Int)] := lit8 V4 #[.int .u8 own, .int .u8 (code.length : Int)] [own, (code.length : Int)] rfl _ 2 rfl rfl (by simp) (by intro x hx; simp at hx; rcases hx with rfl | rfl <;> exact fit_wf (by assumption)); have hbs : B ≤ (V4.alloc (.cells #[.int .u8 own, .int .u8 (code.length : Int)] 5)).heap.size := Nat.le_trans (Nat.le_of_eq HBE.out) (HC4.out.alloc (.cells #[.int .u8 own, .int .u8 (code.length : Int)] 5)).size; have hln : ((((zz ++ [kind, prio]) ++ (leB period 4)) ++ (leB offset 4)) ++ (leB deadline 4)).length + [own, (code.length : Int)].length ≤ 1000000 := (by have := HBG.out; simp only [List.length_append, leB_length, List.length_cons, List.length_nil]; omega); refine wpList_app (o := ⟨some 67, _, _, _, _, _⟩) rfl (.tmp 58) (.tmp 66) rfl B v4 ((((zz ++ [kind, prio]) ++ (leB period 4)) ++ (leB offset 4)) ++ (leB deadline 4)) rfl how _ [own, (code.length : Int)] rfl hrd hln hbs ?_; intro v5 V5 ho hc; have HO5 := Lib.hid ho; have HC5 := Lib.hid (app_chg (HC4.out.alloc (.cells #[.int .u8 own, .int .u8 (code.length : Int)] 5)) how HBA.out hc); have HB5 : Hid (Blk V5 G #[.int .i64 kind, .int .i64 prio, .int .i64 period, .int .i64 offset, .int .i64 deadline, .int .i64 own, .slice ca code.length cc] 41) := Lib.hid ((HB4.out.alloc (.cells #[.int .u8 own, .int .u8 (code.length : Int)] 5)).keep hc (own_ne how (HB4.out.alloc (.cells #[.int .u8 own, .int .u8 (code.length : Int)] 5)) (by decide))); have e0 := HB5.out.cell (o := 0) rfl; have e1 := HB5.out.cell (o := 1) rfl; have e2 := HB5.out.cell (o := 2) rfl; have e3 := HB5.out.cell (o := 3) rfl; have e4 := HB5.out.cell (o := 4) rfl; have e5 := HB5.out.cell (o := 5) rfl; have e6 := HB5.out.cell (o := 6) rfl; clear ho hc how hrd hbs hln) | ((with_reducible show wpList _ _ _ (⟨some 57, _, _, _, _, _⟩ :: _) _ _); have how : OwnB Pc B v3 (((zz ++ [kind, prio]) ++ (leB period 4)) ++ (leB offset 4)) := mem.own_chg HO3.out HCPc.out (by simp); have hrd : ReadsB Pc pc (leB deadline 4) := HPc.out.reads (leB_wf _ _); have hbs : B ≤ Pc.heap.size := Nat.le_trans (Nat.le_of_eq HBE.out) (HC3.out.trans HCPc.out).size; have hln : (((zz ++ [kind, prio]) ++ (leB period 4)) ++ (leB offset 4)).length + (leB deadline 4).length ≤ 1000000 := (by have := HBG.out; simp only [List.length_append, leB_length, List.length_cons, List.length_nil]; omega); refine wpList_app (o := ⟨some 57, _, _, _, _, _⟩) rfl (.tmp 53) (.tmp 56) rfl B v3 (((zz ++ [kind, prio]) ++ (leB period 4)) ++ (leB offset 4)) rfl how _ (leB deadline 4) rfl hrd hln hbs ?_; intro v4 V4 ho hc; have HO4 := Lib.hid ho; have HC4 := Lib.hid (app_chg (HC3.out.trans HCPc.out) how HBA.out hc); have HB4 : Hid (Blk V4 G #[.int .i64 kind, .int .i64 prio, .int .i64 period, .int .i64 offset, .int .i64 deadline, .int .i64 own, .slice ca code.length cc] 41) := Lib.hid ((HB3.out.keep HCPc.out (by simp)).keep hc (own_ne how (HB3.out.keep HCPc.out (by simp)) (by decide))); have e0 := HB4.out.cell (o := 0) rfl; have e1 := HB4.out.cell (o := 1) rfl; have e2 := HB4.out.cell (o := 2) rfl; have e3 := HB4.out.cell (o := 3) rfl; have e4 := HB4.out.cell (o := 4) rfl; have e5 := HB4.out.cell (o := 5) rfl; have e6 := HB4.out.cell (o := 6) rfl; clear ho hc how hrd hbs hln) | (go_at_call 36; (with_reducible refine (rbytes4 deadline V3 HP4.out.2.2).mono ?_); rintro e Pc ⟨pc, rfl, ho, hc⟩; have HPc := Lib.hid ho; have HCPc : Hid (Chg [] V3 Pc) := Lib.hid hc; clear ho hc) | ((with_reducible show wpList _ _ _ (⟨some 52, _, _, _, _, _⟩ :: _) _ _); have how : OwnB Pb B v2 ((zz ++ [kind, prio]) ++ (leB period 4)) := mem.own_chg HO2.out HCPb.out (by simp); have hrd : ReadsB Pb pb (leB offset 4) := HPb.out.reads (leB_wf _ _); have hbs : B ≤ Pb.heap.size := Nat.le_trans (Nat.le_of_eq HBE.out) (HC2.out.trans HCPb.out).size; have hln : ((zz ++ [kind, prio]) ++ (leB period 4)).length + (leB offset 4).length ≤ 1000000 := (by have := HBG.out; simp only [List.length_append, leB_length, List.length_cons, List.length_nil]; omega); refine wpList_app (o := ⟨some 52, _, _, _, _, _⟩) rfl (.tmp 48) (.tmp 51) rfl B v2 ((zz ++ [kind, prio]) ++ (leB period 4)) rfl how _ (leB offset 4) rfl hrd hln hbs ?_; intro v3 V3 ho hc; have HO3 := Lib.hid ho; have HC3 := Lib.hid (app_chg (HC2.out.trans HCPb.out) how HBA.out hc); have HB3 : Hid (Blk V3 G #[.int .i64 kind, .int .i64 prio, .int .i64 period, .int .i64 offset, .int .i64 deadline, .int .i64 own, .slice ca code.length cc] 41) := Lib.hid ((HB2.out.keep HCPb.out (by simp)).keep hc (own_ne how (HB2.out.keep HCPb.out (by simp)) (by decide))); have e0 := HB3.out.cell (o := 0) rfl; have e1 := HB3.out.cell (o := 1) rfl; have e2 := HB3.out.cell (o := 2) rfl; have e3 := HB3.out.cell (o := 3) rfl; have e4 := HB3.out.cell (o := 4) rfl; have e5 := HB3.out.cell (o := 5) rfl; have e6 := HB3.out.cell (o := 6) rfl; clear ho hc how hrd hbs hln) | (go_at_call 36; (with_reducible refine (rbytes4 offset V2 HP4.out.2.1).mono ?_); rintro e Pb ⟨pb, rfl, ho, hc⟩; have HPb := Lib.hid ho; have HCPb : Hid (Chg [] V2 Pb) := Lib.hid hc; clear ho hc) | ((with_reducible show wpList _ _ _ (⟨some 47, _, _, _, _, _⟩ :: _) _ _); have how : OwnB Pa B v1 (zz ++ [kind, prio]) := mem.own_chg HO1.out HCPa.out (by simp); have hrd : ReadsB Pa pa (leB period 4) := HPa.out.reads (leB_wf _ _); have hbs : B ≤ Pa.heap.size := Nat.le_trans (Nat.le_of_eq HBE.out) (HC1.out.trans HCPa.out).size; have hln : (zz ++ [kind, prio]).length + (leB period 4).length ≤ 1000000 := (by have := HBG.out; simp only [List.length_append, leB_length, List.length_cons, List.length_nil]; omega); refine wpList_app (o := ⟨some 47, _, _, _, _, _⟩) rfl (.tmp 43) (.tmp 46) rfl B v1 (zz ++ [kind, prio]) rfl how _ (leB period 4) rfl hrd hln hbs ?_; intro v2 V2 ho hc; have HO2 := Lib.hid ho; have HC2 := Lib.hid (app_chg (HC1.out.trans HCPa.out) how HBA.out hc); have HB2 : Hid (Blk V2 G #[.int .i64 kind, .int .i64 prio, .int .i64 period, .int .i64 offset, .int .i64 deadline, .int .i64 own, .slice ca code.length cc] 41) := Lib.hid ((HB1.out.keep HCPa.out (by simp)).keep hc (own_ne how (HB1.out.keep HCPa.out (by simp)) (by decide))); have e0 := HB2.out.cell (o := 0) rfl; have e1 := HB2.out.cell (o := 1) rfl; have e2 := HB2.out.cell (o := 2) rfl; have e3 := HB2.out.cell (o := 3) rfl; have e4 := HB2.out.cell (o := 4) rfl; have e5 := HB2.out.cell (o := 5) rfl; have e6 := HB2.out.cell (o := 6) rfl; clear ho hc how hrd hbs hln) | (go_at_call 36; (with_reducible refine (rbytes4 period V1 HP4.out.1).mono ?_); rintro e Pa ⟨pa, rfl, ho, hc⟩; have HPa := Lib.hid ho; have HCPa : Hid (Chg [] V1 Pa) := Lib.hid hc; clear ho hc) | ((with_reducible show wpList _ _ _ (⟨some 42, _, _, _, _, _⟩ :: _) _ _); have how : OwnB (V0.alloc (.cells #[.int .u8 kind, .int .u8 prio] 5)) B u4 zz := mem.own_chg HO0.out ((Chg.refl [] _).alloc _) (by simp); have hrd : ReadsB (V0.alloc (.cells #[.int .u8 kind, .int .u8 prio] 5)) (.slice (some ⟨V0.heap.size, 0, none⟩) 2 2) [kind, prio] := lit8 V0 #[.int .u8 kind, .int .u8 prio] [kind, prio] rfl _ 2 rfl rfl (by simp) (by intro x hx; simp at hx; rcases hx with rfl | rfl <;> exact fit_wf (by assumption)); have hbs : B ≤ (V0.alloc (.cells #[.int .u8 kind, .int .u8 prio] 5)).heap.size := Nat.le_trans (Nat.le_of_eq HBE.out) (HC0.out.alloc (.cells #[.int .u8 kind, .int .u8 prio] 5)).size; have hln : zz.length + [kind, prio].length ≤ 1000000 := (by have := HBG.out; simp only [List.length_append, leB_length, List.length_cons, List.length_nil]; omega); refine wpList_app (o := ⟨some 42, _, _, _, _, _⟩) rfl (.tmp 34) (.tmp 41) rfl B u4 zz rfl how _ [kind, prio] rfl hrd hln hbs ?_; intro v1 V1 ho hc; have HO1 := Lib.hid ho; have HC1 := Lib.hid (app_chg (HC0.out.alloc (.cells #[.int .u8 kind, .int .u8 prio] 5)) how HBA.out hc); have HB1 : Hid (Blk V1 G #[.int .i64 kind, .int .i64 prio, .int .i64 period, .int .i64 offset, .int .i64 deadline, .int .i64 own, .slice ca code.length cc] 41) := Lib.hid ((HB0.out.alloc (.cells #[.int .u8 kind, .int .u8 prio] 5)).keep hc (own_ne how (HB0.out.alloc (.cells #[.int .u8 kind, .int .u8 prio] 5)) (by decide))); have e0 := HB1.out.cell (o := 0) rfl; have e1 := HB1.out.cell (o := 1) rfl; have e2 := HB1.out.cell (o := 2) rfl; have e3 := HB1.out.cell (o := 3) rfl; have e4 := HB1.out.cell (o := 4) rfl; have e5 := HB1.out.cell (o := 5) rfl; have e6 := HB1.out.cell (o := 6) rfl; clear ho hc how hrd hbs hln))
      have eG := HB5.out.cell (o := 6) rfl
      have HCQ := HC5
      have HOQ := HO5
      have HBQ := HB5
      obtain ⟨zq, hzq⟩ : ∃ zq, (((((zz ++ [kind, prio]) ++ (leB period 4)) ++ (leB offset 4)) ++ (leB deadline 4)) ++ [own, (code.length : Int)]) = zq := ⟨_, rfl⟩
      have HZQ : Hid ((((((zz ++ [kind, prio]) ++ (leB period 4)) ++ (leB offset 4)) ++ (leB deadline 4)) ++ [own, (code.length : Int)]) = zq ∧ zq.length = zz.length + 16) := Lib.hid ⟨hzq, by rw [← hzq]; simp [leB_length]⟩
      rw [hzq] at HOQ
      clear hzq
      go_wp2_with fail
      clear eG
      go_loopw [4, 71] (fun b i wr => ∃ m : Nat, m ≤ code.length ∧ i = .int .i64 m ∧ Hid (OwnB wr B b (zq ++ encC (code.take m))) ∧ Hid (Chg [] (W.alloc (.cells #[.slice ta ts.length tc, .slice oa os.length oc] 27)) wr)) (fun _ i _ => code.length - (intOf i).toNat)
      case atStart => exact ⟨0, Nat.zero_le _, rfl, Lib.hid (by have := HOQ.out; simpa [encC] using this), HCQ⟩
      case round =>
        obtain ⟨m, hm, rfl, HOM, HJM⟩ := hrel
        obtain ⟨V0, rfl⟩ : ∃ V0 : World, V0 = wr := ⟨_, rfl⟩
        by_cases hmt : m < code.length
        · have HMT := Lib.hid hmt
          have g1 := HX3.out m hmt
          obtain ⟨⟨iop, ia, ib, ic, iN⟩, hik⟩ : ∃ t, code[m]? = some t := ⟨_, List.getElem?_eq_getElem hmt⟩
          have q0 := (HCA.out.trans HJM.out).keep (HCL3.out (m * 5 + 0) _ (by rw [flatMap_get Ins.cells 5 (fun _ => rfl) code m 0 (by decide) _ hik]; rfl)) (by simp)
          have q1 := (HCA.out.trans HJM.out).keep (HCL3.out (m * 5 + 1) _ (by rw [flatMap_get Ins.cells 5 (fun _ => rfl) code m 1 (by decide) _ hik]; rfl)) (by simp)
          have q2 := (HCA.out.trans HJM.out).keep (HCL3.out (m * 5 + 2) _ (by rw [flatMap_get Ins.cells 5 (fun _ => rfl) code m 2 (by decide) _ hik]; rfl)) (by simp)
          have q3 := (HCA.out.trans HJM.out).keep (HCL3.out (m * 5 + 3) _ (by rw [flatMap_get Ins.cells 5 (fun _ => rfl) code m 3 (by decide) _ hik]; rfl)) (by simp)
          have q4 := (HCA.out.trans HJM.out).keep (HCL3.out (m * 5 + 4) _ (by rw [flatMap_get Ins.cells 5 (fun _ => rfl) code m 4 (by decide) _ hik]; rfl)) (by simp)
          rw [Nat.add_zero] at q0
          rw [← Nat.add_assoc] at q1 q2 q3 q4
          have HIK := Lib.hid hik
          have HIF : Hid ((⟨iop, ia, ib, ic, iN⟩ : Ins).fit) := Lib.hid (HTF.out.2.2 _ (List.mem_of_getElem? hik))
          have HIN : Hid (fit4 (⟨iop, ia, ib, ic, iN⟩ : Ins).n) := Lib.hid (HCW.out _ (List.mem_of_getElem? hik))
          have HLI : Hid ((zq ++ encC (code.take m)).length ≤ 900000) := Lib.hid (by have h1 := HZQ.out.2; have h2 := HBG.out; rw [List.length_append, encC_len, List.length_take]; omega)
          have hm1000 : (m : Int) < 1000 := by have := HCC.out; omega
          have k9 : IntKind.i64.wrap ((m : Int) + 1) = (m : Int) + 1 := by rw [IntKind.wrap_i64]; omega
          have HO0 := HOM
          have HC0 := HJM
          clear hik hm hmt
          go_wp2_with (first | ((with_reducible show wpList _ _ _ (⟨some 78, _, _, _, _, _⟩ :: _) _ _); have how : OwnB Pi B u4 (zq ++ encC (code.take m)) := mem.own_chg HO0.out HCPi.out (by simp); have hrd : ReadsB Pi pi (encI (⟨iop, ia, ib, ic, iN⟩ : Ins)) := HPi.out; have hbs : B ≤ Pi.heap.size := Nat.le_trans (Nat.le_of_eq HBE.out) (HC0.out.trans HCPi.out).size; have hln : (zq ++ encC (code.take m)).length + (encI (⟨iop, ia, ib, ic, iN⟩ : Ins)).length ≤ 1000000 := (by have h9 := HLI.out; rw [encI_len]; omega); refine wpList_app (o := ⟨some 78, _, _, _, _, _⟩) rfl (.tmp 75) (.tmp 77) rfl B u4 (zq ++ encC (code.take m)) rfl how _ (encI (⟨iop, ia, ib, ic, iN⟩ : Ins)) rfl hrd hln hbs ?_; intro v1 V1 ho hc; have HO1 := Lib.hid ho; have HC1 := Lib.hid (app_chg (HC0.out.trans HCPi.out) how HBA.out hc); clear ho hc how hrd hbs hln) | (go_at_call 37; (with_reducible refine (rIns_any (⟨iop, ia, ib, ic, iN⟩ : Ins) HIF.out HIN.out _).mono ?_); rintro e Pi ⟨pi, rfl, ho, hc⟩; have HPi := Lib.hid ho; have HCPi : Hid (Chg [] V0 Pi) := Lib.hid (((Chg.refl [] V0).alloc _).trans hc); clear ho hc))
          have hmm := HMT.out
          go_roundw
          case rel => exact ⟨m + 1, by omega, by go_num, Lib.hid (by have h9 := HO1.out; unfold encC at h9 ⊢; rw [flat_snocR encI HIK.out, ← List.append_assoc]; exact h9), HC1⟩
          case measure => simp [intOf]; omega
        · obtain rfl : m = code.length := by omega
          clear hmt hm
          have HOE : Hid (OwnB V0 B u4 (zz ++ encT (⟨kind, prio, period, offset, deadline, own, code⟩ : PTk))) := Lib.hid (by
            have h9 := HOM.out
            rw [List.take_length, ← HZQ.out.1] at h9
            have h8 : encT (⟨kind, prio, period, offset, deadline, own, code⟩ : PTk) = [kind, prio] ++ (leB period 4 ++ (leB offset 4 ++ (leB deadline 4 ++ ([own, (code.length : Int)] ++ encC code)))) := by
              unfold encT
              dsimp only
              rw [lb1 HF4.out.1, lb1 HF4.out.2.1, lb1 HF4.out.2.2.1, lb1 HF4.out.2.2.2]
              rfl
            rw [h8]
            simp only [List.append_assoc] at h9 ⊢
            exact h9)
          go_wp2_with fail
          have hltj := HLT.out
          go_roundw
          case rel => exact ⟨j + 1, by omega, by go_num, Lib.hid (by rw [List.map_take, flat_snocR encT (show (ts.map DT.p)[j]? = some (⟨kind, prio, period, offset, deadline, own, code⟩ : PTk) by rw [List.getElem?_map, HK.out]; rfl), ← List.append_assoc, ← List.map_take, HZZ.out]; exact HOE.out), HJM⟩
          case measure => simp [intOf]; omega
    · obtain rfl : ts.length = j := by omega
      clear hlt hj
      have HOT1 : Hid (OwnB wo B u4 (hdr ts.length os.length ++ (ts.map DT.p).flatMap encT)) := Lib.hid (by have := HOJ.out; rwa [List.take_length] at this)
      have e1 : wo.cell? ⟨W.heap.size, 1, none⟩ = some (.slice oa os.length oc) := (HBX.out.keep HJ.out (by simp)).cell rfl
      have HJO := HJ
      clear HOJ HJ
      go_wp2_with fail
      clear e1
      go_loopw [4, 84] (fun b i wr => ∃ j : Nat, j ≤ os.length ∧ i = .int .i64 j ∧ Hid (OwnB wr B b ((hdr ts.length os.length ++ (ts.map DT.p).flatMap encT) ++ ((os.take j).map DO.p).flatMap encO)) ∧ Hid (Chg [] (W.alloc (.cells #[.slice ta ts.length tc, .slice oa os.length oc] 27)) wr)) (fun _ i _ => os.length - (intOf i).toNat)
      case atStart => exact ⟨0, Nat.zero_le _, rfl, Lib.hid (by have := HOT1.out; simpa using this), HJO⟩
      case round =>
        clear HOT1 HJO
        obtain ⟨j, hj, rfl, HOJ, HJ⟩ := hrel
        obtain ⟨wo, rfl⟩ : ∃ wo : World, wo = wr := ⟨_, rfl⟩
        by_cases hlt : j < os.length
        · have HLT := Lib.hid hlt
          have g1 := HX2.out j hlt
          obtain ⟨⟨⟨k, w, s, c, st, ia, il, ic, wri, ra, rl, rc⟩, ini, rds⟩, htk⟩ : ∃ t, os[j]? = some t := ⟨_, List.getElem?_eq_getElem hlt⟩
          have q0 := (HCA.out.trans HJ.out).keep (HCL2.out (j * 8 + 0) _ (by rw [flatMap_get (fun d : DO => d.o.cells) 8 (fun _ => rfl) os j 0 (by decide) _ htk]; rfl)) (by simp)
          have q1 := (HCA.out.trans HJ.out).keep (HCL2.out (j * 8 + 1) _ (by rw [flatMap_get (fun d : DO => d.o.cells) 8 (fun _ => rfl) os j 1 (by decide) _ htk]; rfl)) (by simp)
          have q2 := (HCA.out.trans HJ.out).keep (HCL2.out (j * 8 + 2) _ (by rw [flatMap_get (fun d : DO => d.o.cells) 8 (fun _ => rfl) os j 2 (by decide) _ htk]; rfl)) (by simp)
          have q3 := (HCA.out.trans HJ.out).keep (HCL2.out (j * 8 + 3) _ (by rw [flatMap_get (fun d : DO => d.o.cells) 8 (fun _ => rfl) os j 3 (by decide) _ htk]; rfl)) (by simp)
          have q4 := (HCA.out.trans HJ.out).keep (HCL2.out (j * 8 + 4) _ (by rw [flatMap_get (fun d : DO => d.o.cells) 8 (fun _ => rfl) os j 4 (by decide) _ htk]; rfl)) (by simp)
          have q5 := (HCA.out.trans HJ.out).keep (HCL2.out (j * 8 + 5) _ (by rw [flatMap_get (fun d : DO => d.o.cells) 8 (fun _ => rfl) os j 5 (by decide) _ htk]; rfl)) (by simp)
          have q6 := (HCA.out.trans HJ.out).keep (HCL2.out (j * 8 + 6) _ (by rw [flatMap_get (fun d : DO => d.o.cells) 8 (fun _ => rfl) os j 6 (by decide) _ htk]; rfl)) (by simp)
          have q7 := (HCA.out.trans HJ.out).keep (HCL2.out (j * 8 + 7) _ (by rw [flatMap_get (fun d : DO => d.o.cells) 8 (fun _ => rfl) os j 7 (by decide) _ htk]; rfl)) (by simp)
          rw [Nat.add_zero] at q0
          rw [← Nat.add_assoc] at q1 q2 q3 q4 q5 q6 q7
          have hDR := HOD.out _ (List.mem_of_getElem? htk)
          obtain rfl : il = ini.length := hDR.leni
          obtain rfl : rl = rds.length := hDR.lenr
          have HDR := Lib.hid hDR
          have HCC : Hid (ini.length ≤ 1000 ∧ rds.length ≤ 1000) := Lib.hid (HCL.out.2 _ (List.mem_of_getElem? htk))
          have HK := Lib.hid htk
          have hj1000 : (j : Int) < 1000 := by have := HL.out; omega
          have k8 : IntKind.i64.wrap ((j : Int) + 1) = (j : Int) + 1 := by rw [IntKind.wrap_i64]; omega
          have HTF : Hid ((⟨k, w, s, c, st, wri, ini, rds⟩ : POb).fit) := Lib.hid (HFS.out.2.2 _ (List.mem_map.2 ⟨_, List.mem_of_getElem? htk, rfl⟩))
          have HP4 : Hid (fit4 st) := Lib.hid HDR.out.1.1
          have HIW : Hid (∀ x ∈ ini, fit4 x) := Lib.hid (fun x hx => wf_u32 (HDR.out.1.2.2 x hx))
          have HRW : Hid (∀ r ∈ rds, fit1 r) := Lib.hid HTF.out.2
          obtain ⟨b3, o3, hx3, hc3, -⟩ := reads_index (P := Try.prog) Try.underlying51 szInt (HDR.out.2 : ReadsN W (.slice ra rds.length rc) rds)
          have HX3 := Lib.hid hx3
          have HCL3 := Lib.hid hc3
          obtain ⟨b4, o4, hx4, hc4, -⟩ := reads_index (P := Try.prog) Try.underlying50 szU32 (HDR.out.1.2 : ReadsW W (.slice ia ini.length ic) ini).1
          have HX4 := Lib.hid hx4
          have HCL4 := Lib.hid hc4
          obtain ⟨zz, hzz⟩ : ∃ zz, (hdr ts.length os.length ++ (ts.map DT.p).flatMap encT) ++ ((os.take j).map DO.p).flatMap encO = zz := ⟨_, rfl⟩
          have HZZ := Lib.hid hzz
          have HBG : Hid (zz.length + 11 + rds.length + 4 * ini.length ≤ 900000) := Lib.hid (by
            have h0 := lenT HFS.out.2.1
            have h1 := lenO (l := (os.take j).map DO.p) (fun t ht => HFS.out.2.2 t (by rw [List.map_take] at ht; exact List.mem_of_mem_take ht))
            have h2 := HTF.out.1.2.2.2.2.2
            have h3 := HF1.out
            unfold fit1 at h3 h2
            dsimp only at h2
            rw [List.length_map, List.length_take] at h1
            rw [List.length_map] at h0
            rw [← hzz, List.length_append, List.length_append, hdr_len]
            omega)
          rw [hzz] at HOJ
          obtain ⟨f1, f2, f3, f4, f5, f6, f7⟩ := HTF.out.1
          dsimp only at f1 f2 f3 f4 f5 f6 f7
          have HF7 := Lib.hid (show fit1 k ∧ fit1 w ∧ fit1 s ∧ fit1 c ∧ fit1 wri ∧ fit1 (rds.length : Int) ∧ fit1 (ini.length : Int) from ⟨f1, f2, f3, f4, f5, f6, f7⟩)
          have kw1 := u8w f1
          have kw2 := u8w f2
          have kw3 := u8w f3
          have kw4 := u8w f4
          have kw5 := u8w f5
          have kw6 := u8w f6
          have kw7 := u8w f7
          have kst : IntKind.i64.wrap st = st := by have := HP4.out; unfold fit4 at this; rw [IntKind.wrap_i64]; omega
          clear htk hj hlt hDR hx3 hc3 hx4 hc4 hzz
          go_upto_region 21 with fail
          refine code_gen (R := fun V => Hid (Blk V wo.heap.size #[.int .i64 k, .int .i64 w, .int .i64 s, .int .i64 c, .int .u32 st, .slice ia ini.length ic, .int .i64 wri, .slice ra rds.length rc] 53) ∧ Hid (OwnB V B u4 zz) ∧ Hid (Chg [] (W.alloc (.cells #[.slice ta ts.length tc, .slice oa os.length oc] 27)) V)) ⟨Lib.hid (Blk.new wo _ _), Lib.hid (mem.own_chg HOJ.out ((Chg.refl [] _).alloc _) (by simp)), Lib.hid (HJ.out.alloc _)⟩ ?_
          rintro V0 ⟨HB0, HO0, HC0⟩
          obtain ⟨G, hG⟩ : ∃ G, G = wo.heap.size := ⟨_, rfl⟩
          rw [← hG] at HB0 ⊢
          have e0 := HB0.out.cell (o := 0) rfl
          have e1 := HB0.out.cell (o := 1) rfl
          have e2 := HB0.out.cell (o := 2) rfl
          have e3 := HB0.out.cell (o := 3) rfl
          clear hG q0 q1 q2 q3 q4 q5 q6 q7 g1
          go_upto_region 24 with (first | ((with_reducible show wpList _ _ _ (⟨some 118, _, _, _, _, _⟩ :: _) _ _); have how : OwnB (V2.alloc (.cells #[.int .u8 wri, .int .u8 (rds.length : Int)] 5)) B v2 ((zz ++ [k, w, s, c]) ++ (leB st 4)) := mem.own_chg HO2.out ((Chg.refl [] _).alloc _) (by simp); have hrd : ReadsB (V2.alloc (.cells #[.int .u8 wri, .int .u8 (rds.length : Int)] 5)) (.slice (some ⟨V2.heap.size, 0, none⟩) 2 2) [wri, (rds.length : Int)] := lit8 V2 #[.int .u8 wri, .int .u8 (rds.length : Int)] [wri, (rds.length : Int)] rfl _ 2 rfl rfl (by simp) (by intro x hx; simp at hx; rcases hx with rfl | rfl <;> exact fit_wf (by assumption)); have hbs : B ≤ (V2.alloc (.cells #[.int .u8 wri, .int .u8 (rds.length : Int)] 5)).heap.size := Nat.le_trans (Nat.le_of_eq HBE.out) (HC2.out.alloc (.cells #[.int .u8 wri, .int .u8 (rds.length : Int)] 5)).size; have hln : ((zz ++ [k, w, s, c]) ++ (leB st 4)).length + [wri, (rds.length : Int)].length ≤ 1000000 := (by have := HBG.out; simp only [List.length_append, leB_length, List.length_cons, List.length_nil]; omega); refine wpList_app (o := ⟨some 118, _, _, _, _, _⟩) rfl (.tmp 109) (.tmp 117) rfl B v2 ((zz ++ [k, w, s, c]) ++ (leB st 4)) rfl how _ [wri, (rds.length : Int)] rfl hrd hln hbs ?_; intro v3 V3 ho hc; have HO3 := Lib.hid ho; have HC3 := Lib.hid (app_chg (HC2.out.alloc (.cells #[.int .u8 wri, .int .u8 (rds.length : Int)] 5)) how HBA.out hc); have HB3 : Hid (Blk V3 G #[.int .i64 k, .int .i64 w, .int .i64 s, .int .i64 c, .int .u32 st, .slice ia ini.length ic, .int .i64 wri, .slice ra rds.length rc] 53) := Lib.hid ((HB2.out.alloc (.cells #[.int .u8 wri, .int .u8 (rds.length : Int)] 5)).keep hc (own_ne how (HB2.out.alloc (.cells #[.int .u8 wri, .int .u8 (rds.length : Int)] 5)) (by decide))); have e0 := HB3.out.cell (o := 0) rfl; have e1 := HB3.out.cell (o := 1) rfl; have e2 := HB3.out.cell (o := 2) rfl; have e3 := HB3.out.cell (o := 3) rfl; have e4 := HB3.out.cell (o := 4) rfl; have e5 := HB3.out.cell (o := 5) rfl; have e6 := HB3.out.cell (o := 6) rfl; have e7 := HB3.out.cell (o := 7) rfl; clear ho hc how hrd hbs hln) | ((with_reducible show wpList _ _ _ (⟨some 108, _, _, _, _, _⟩ :: _) _ _); have how : OwnB Pa B v1 (zz ++ [k, w, s, c]) := mem.own_chg HO1.out HCPa.out (by simp); have hrd : ReadsB Pa pa (leB st 4) := HPa.out.reads (leB_wf _ _); have hbs : B ≤ Pa.heap.size := Nat.le_trans (Nat.le_of_eq HBE.out) (HC1.out.trans HCPa.out).size; have hln : (zz ++ [k, w, s, c]).length + (leB st 4).length ≤ 1000000 := (by have := HBG.out; simp only [List.length_append, leB_length, List.length_cons, List.length_nil]; omega); refine wpList_app (o := ⟨some 108, _, _, _, _, _⟩) rfl (.tmp 103) (.tmp 107) rfl B v1 (zz ++ [k, w, s, c]) rfl how _ (leB st 4) rfl hrd hln hbs ?_; intro v2 V2 ho hc; have HO2 := Lib.hid ho; have HC2 := Lib.hid (app_chg (HC1.out.trans HCPa.out) how HBA.out hc); have HB2 : Hid (Blk V2 G #[.int .i64 k, .int .i64 w, .int .i64 s, .int .i64 c, .int .u32 st, .slice ia ini.length ic, .int .i64 wri, .slice ra rds.length rc] 53) := Lib.hid ((HB1.out.keep HCPa.out (by simp)).keep hc (own_ne how (HB1.out.keep HCPa.out (by simp)) (by decide))); have e0 := HB2.out.cell (o := 0) rfl; have e1 := HB2.out.cell (o := 1) rfl; have e2 := HB2.out.cell (o := 2) rfl; have e3 := HB2.out.cell (o := 3) rfl; have e4 := HB2.out.cell (o := 4) rfl; have e5 := HB2.out.cell (o := 5) rfl; have e6 := HB2.out.cell (o := 6) rfl; have e7 := HB2.out.cell (o := 7) rfl; clear ho hc how hrd hbs hln) | (go_at_call 36; (with_reducible refine (rbytes4 st V1 HP4.out).mono ?_); rintro e Pa ⟨pa, rfl, ho, hc⟩; have HPa := Lib.hid ho; have HCPa : Hid (Chg [] V1 Pa) := Lib.hid hc; clear ho hc) | ((with_reducible show wpList _ _ _ (⟨some 102, _, _, _, _, _⟩ :: _) _ _); have how : OwnB (V0.alloc (.cells #[.int .u8 k, .int .u8 w, .int .u8 s, .int .u8 c] 5)) B u4 zz := mem.own_chg HO0.out ((Chg.refl [] _).alloc _) (by simp); have hrd : ReadsB (V0.alloc (.cells #[.int .u8 k, .int .u8 w, .int .u8 s, .int .u8 c] 5)) (.slice (some ⟨V0.heap.size, 0, none⟩) 4 4) [k, w, s, c] := lit8 V0 #[.int .u8 k, .int .u8 w, .int .u8 s, .int .u8 c] [k, w, s, c] rfl _ 4 rfl rfl (by simp) (by intro x hx; simp at hx; rcases hx with rfl | rfl | rfl | rfl <;> exact fit_wf (by assumption)); have hbs : B ≤ (V0.alloc (.cells #[.int .u8 k, .int .u8 w, .int .u8 s, .int .u8 c] 5)).heap.size := Nat.le_trans (Nat.le_of_eq HBE.out) (HC0.out.alloc (.cells #[.int .u8 k, .int .u8 w, .int .u8 s, .int .u8 c] 5)).size; have hln : zz.length + [k, w, s, c].length ≤ 1000000 := (by have := HBG.out; simp only [List.length_append, leB_length, List.length_cons, List.length_nil]; omega); refine wpList_app (o := ⟨some 102, _, _, _, _, _⟩) rfl (.tmp 88) (.tmp 101) rfl B u4 zz rfl how _ [k, w, s, c] rfl hrd hln hbs ?_; intro v1 V1 ho hc; have HO1 := Lib.hid ho; have HC1 := Lib.hid (app_chg (HC0.out.alloc (.cells #[.int .u8 k, .int .u8 w, .int .u8 s, .int .u8 c] 5)) how HBA.out hc); have HB1 : Hid (Blk V1 G #[.int .i64 k, .int .i64 w, .int .i64 s, .int .i64 c, .int .u32 st, .slice ia ini.length ic, .int .i64 wri, .slice ra rds.length rc] 53) := Lib.hid ((HB0.out.alloc (.cells #[.int .u8 k, .int .u8 w, .int .u8 s, .int .u8 c] 5)).keep hc (own_ne how (HB0.out.alloc (.cells #[.int .u8 k, .int .u8 w, .int .u8 s, .int .u8 c] 5)) (by decide))); have e0 := HB1.out.cell (o := 0) rfl; have e1 := HB1.out.cell (o := 1) rfl; have e2 := HB1.out.cell (o := 2) rfl; have e3 := HB1.out.cell (o := 3) rfl; have e4 := HB1.out.cell (o := 4) rfl; have e5 := HB1.out.cell (o := 5) rfl; have e6 := HB1.out.cell (o := 6) rfl; have e7 := HB1.out.cell (o := 7) rfl; clear ho hc how hrd hbs hln))
          have HOQ := HO3
          have HCQ := HC3
          have HBQ := HB3
          obtain ⟨zq, hzq⟩ : ∃ zq, (((zz ++ [k, w, s, c]) ++ (leB st 4)) ++ [wri, (rds.length : Int)]) = zq := ⟨_, rfl⟩
          have HZQ : Hid ((((zz ++ [k, w, s, c]) ++ (leB st 4)) ++ [wri, (rds.length : Int)]) = zq ∧ zq.length = zz.length + 10) := Lib.hid ⟨hzq, by rw [← hzq]; simp [leB_length]⟩
          rw [hzq] at HOQ
          clear hzq kst HB0 HO0 HC0 HB1 HO1 HC1 HB2 HO2 HC2 HB3 HO3 HC3
          go_wp2_with fail
          go_loopw [4, 122] (fun b i wr => ∃ m : Nat, m ≤ rds.length ∧ i = .int .i64 m ∧ Hid (OwnB wr B b (zq ++ enc1 (rds.take m))) ∧ Hid (Blk wr G #[.int .i64 k, .int .i64 w, .int .i64 s, .int .i64 c, .int .u32 st, .slice ia ini.length ic, .int .i64 wri, .slice ra rds.length rc] 53) ∧ Hid (Chg [] (W.alloc (.cells #[.slice ta ts.length tc, .slice oa os.length oc] 27)) wr)) (fun _ i _ => rds.length - (intOf i).toNat)
          case atStart => exact ⟨0, Nat.zero_le _, rfl, Lib.hid (by have := HOQ.out; simpa [enc1] using this), HBQ, HCQ⟩
          case round =>
            clear HOQ HBQ HCQ
            obtain ⟨m, hm, rfl, HOM, HBM, HJM⟩ := hrel
            obtain ⟨V0, rfl⟩ : ∃ V0 : World, V0 = wr := ⟨_, rfl⟩
            have HO0 := HOM
            have HC0 := HJM
            have HB0 := HBM
            by_cases hmt : m < rds.length
            · have HMT := Lib.hid hmt
              have g1 := HX3.out m hmt
              obtain ⟨r, hik⟩ : ∃ t, rds[m]? = some t := ⟨_, List.getElem?_eq_getElem hmt⟩
              have q0 := (HCA.out.trans HJM.out).keep (HCL3.out m _ (by rw [List.getElem?_map, hik]; rfl)) (by simp)
              rw [Nat.mul_one] at g1
              have HIK := Lib.hid hik
              have HRF : Hid (fit1 r) := Lib.hid (HRW.out _ (List.mem_of_getElem? hik))
              have kr := u8w HRF.out
              have HLI : Hid ((zq ++ enc1 (rds.take m)).length ≤ 900000) := Lib.hid (by have h1 := HZQ.out.2; have h2 := HBG.out; rw [List.length_append, enc1_len, List.length_take]; omega)
              have hm1000 : (m : Int) < 1000 := by have := HCC.out; omega
              have k9 : IntKind.i64.wrap ((m : Int) + 1) = (m : Int) + 1 := by rw [IntKind.wrap_i64]; omega
              clear hik hm hmt
              go_wp2_with (first | ((with_reducible show wpList _ _ _ (⟨some 130, _, _, _, _, _⟩ :: _) _ _); have how : OwnB (V0.alloc (.cells #[.int .u8 r] 5)) B u4 (zq ++ enc1 (rds.take m)) := mem.own_chg HO0.out ((Chg.refl [] _).alloc _) (by simp); have hrd : ReadsB (V0.alloc (.cells #[.int .u8 r] 5)) (.slice (some ⟨V0.heap.size, 0, none⟩) 1 1) [r] := lit8 V0 #[.int .u8 r] [r] rfl _ 1 rfl rfl (by simp) (fun x hx => by simp at hx; subst hx; exact fit_wf HRF.out); have hbs : B ≤ (V0.alloc (.cells #[.int .u8 r] 5)).heap.size := Nat.le_trans (Nat.le_of_eq HBE.out) (HC0.out.alloc (.cells #[.int .u8 r] 5)).size; have hln : (zq ++ enc1 (rds.take m)).length + [r].length ≤ 1000000 := (by have := HLI.out; simp only [List.length_cons, List.length_nil]; omega); refine wpList_app (o := ⟨some 130, _, _, _, _, _⟩) rfl (.tmp 126) (.tmp 129) rfl B u4 (zq ++ enc1 (rds.take m)) rfl how _ [r] rfl hrd hln hbs ?_; intro v1 V1 ho hc; have HO1 := Lib.hid ho; have HC1 := Lib.hid (app_chg (HC0.out.alloc (.cells #[.int .u8 r] 5)) how HBA.out hc); have HBK : Hid (Blk V1 G #[.int .i64 k, .int .i64 w, .int .i64 s, .int .i64 c, .int .u32 st, .slice ia ini.length ic, .int .i64 wri, .slice ra rds.length rc] 53) := Lib.hid ((HB0.out.alloc (.cells #[.int .u8 r] 5)).keep hc (own_ne how (HB0.out.alloc (.cells #[.int .u8 r] 5)) (by decide))); clear ho hc how hrd hbs hln))
              have HB1 : Hid (Blk V1 G #[.int .i64 k, .int .i64 w, .int .i64 s, .int .i64 c, .int .u32 st, .slice ia ini.length ic, .int .i64 wri, .slice ra rds.length rc] 53) := HBK
              have hmm := HMT.out
              go_roundw
              case rel => exact ⟨m + 1, by omega, by go_num, Lib.hid (by have h9 := HO1.out; unfold enc1 at h9 ⊢; rw [flat_snocR (fun x => leB x 1) HIK.out, ← List.append_assoc, lb1 HRF.out]; exact h9), HB1, HC1⟩
              case measure => simp [intOf]; omega
            · obtain rfl : m = rds.length := by omega
              clear hmt hm
              have HO0 : Hid (OwnB V0 B u4 (zq ++ enc1 rds)) := Lib.hid (by have h9 := HOM.out; rwa [List.take_length] at h9)
              have e5 := HB0.out.cell (o := 5) rfl
              go_upto_region 30 with ((with_reducible show wpList _ _ _ (⟨some 138, _, _, _, _, _⟩ :: _) _ _); have how : OwnB (V0.alloc (.cells #[.int .u8 (ini.length : Int)] 5)) B u4 (zq ++ enc1 rds) := mem.own_chg HO0.out ((Chg.refl [] _).alloc _) (by simp); have hrd : ReadsB (V0.alloc (.cells #[.int .u8 (ini.length : Int)] 5)) (.slice (some ⟨V0.heap.size, 0, none⟩) 1 1) [(ini.length : Int)] := lit8 V0 #[.int .u8 (ini.length : Int)] [(ini.length : Int)] rfl _ 1 rfl rfl (by simp) (fun x hx => by simp at hx; subst hx; exact fit_wf HF7.out.2.2.2.2.2.2); have hbs : B ≤ (V0.alloc (.cells #[.int .u8 (ini.length : Int)] 5)).heap.size := Nat.le_trans (Nat.le_of_eq HBE.out) (HC0.out.alloc (.cells #[.int .u8 (ini.length : Int)] 5)).size; have hln : (zq ++ enc1 rds).length + [(ini.length : Int)].length ≤ 1000000 := (by have := HBG.out; have := HZQ.out.2; simp only [List.length_append, enc1_len, List.length_cons, List.length_nil]; omega); refine wpList_app (o := ⟨some 138, _, _, _, _, _⟩) rfl (.tmp 132) (.tmp 137) rfl B u4 (zq ++ enc1 rds) rfl how _ [(ini.length : Int)] rfl hrd hln hbs ?_; intro v1 V1 ho hc; have HO1 := Lib.hid ho; have HC1 := Lib.hid (app_chg (HC0.out.alloc (.cells #[.int .u8 (ini.length : Int)] 5)) how HBA.out hc); have HB1 : Hid (Blk V1 G #[.int .i64 k, .int .i64 w, .int .i64 s, .int .i64 c, .int .u32 st, .slice ia ini.length ic, .int .i64 wri, .slice ra rds.length rc] 53) := Lib.hid ((HB0.out.alloc (.cells #[.int .u8 (ini.length : Int)] 5)).keep hc (own_ne how (HB0.out.alloc (.cells #[.int .u8 (ini.length : Int)] 5)) (by decide))); have e0 := HB1.out.cell (o := 0) rfl; have e1 := HB1.out.cell (o := 1) rfl; have e2 := HB1.out.cell (o := 2) rfl; have e3 := HB1.out.cell (o := 3) rfl; have e4 := HB1.out.cell (o := 4) rfl; have e5 := HB1.out.cell (o := 5) rfl; have e6 := HB1.out.cell (o := 6) rfl; have e7 := HB1.out.cell (o := 7) rfl; clear ho hc how hrd hbs hln)
              have HOQ := HO1
              have HCQ := HC1
              have HBQ := HB1
              obtain ⟨zr, hzr⟩ : ∃ zr, ((zq ++ enc1 rds) ++ [(ini.length : Int)]) = zr := ⟨_, rfl⟩
              have HZR : Hid ((zq ++ enc1 rds) ++ [(ini.length : Int)] = zr ∧ zr.length = zz.length + 11 + rds.length) := Lib.hid ⟨hzr, by have := HZQ.out.2; rw [← hzr]; simp [enc1_len]; omega⟩
              rw [hzr] at HOQ
              clear hzr HOM HBM HJM HO0 HC0 HB0 HO1 HC1 HB1
              go_wp2_with fail
              go_loopw [4, 142] (fun b i wr => ∃ m : Nat, m ≤ ini.length ∧ i = .int .i64 m ∧ Hid (OwnB wr B b (zr ++ enc4 (ini.take m))) ∧ Hid (Chg [] (W.alloc (.cells #[.slice ta ts.length tc, .slice oa os.length oc] 27)) wr)) (fun _ i _ => ini.length - (intOf i).toNat)
              case atStart => exact ⟨0, Nat.zero_le _, rfl, Lib.hid (by have := HOQ.out; simpa [enc4] using this), HCQ⟩
              case round =>
                clear HOQ HBQ HCQ
                obtain ⟨m, hm, rfl, HOM, HJM⟩ := hrel
                obtain ⟨V0, rfl⟩ : ∃ V0 : World, V0 = wr := ⟨_, rfl⟩
                have HO0 := HOM
                have HC0 := HJM
                by_cases hmt : m < ini.length
                · have HMT := Lib.hid hmt
                  have g1 := HX4.out m hmt
                  obtain ⟨x, hik⟩ : ∃ t, ini[m]? = some t := ⟨_, List.getElem?_eq_getElem hmt⟩
                  have q0 := (HCA.out.trans HJM.out).keep (HCL4.out m _ (by rw [List.getElem?_map, hik]; rfl)) (by simp)
                  rw [Nat.mul_one] at g1
                  have HIK := Lib.hid hik
                  have HXF : Hid (fit4 x) := Lib.hid (HIW.out _ (List.mem_of_getElem? hik))
                  have kx : IntKind.i64.wrap x = x := by have := HXF.out; unfold fit4 at this; rw [IntKind.wrap_i64]; omega
                  have HLI : Hid ((zr ++ enc4 (ini.take m)).length ≤ 900000) := Lib.hid (by have h1 := HZR.out.2; have h2 := HBG.out; rw [List.length_append, enc4_len, List.length_take]; omega)
                  have hm1000 : (m : Int) < 1000 := by have := HCC.out; omega
                  have k9 : IntKind.i64.wrap ((m : Int) + 1) = (m : Int) + 1 := by rw [IntKind.wrap_i64]; omega
                  clear hik hm hmt
                  go_wp2_with (first | ((with_reducible show wpList _ _ _ (⟨some 150, _, _, _, _, _⟩ :: _) _ _); have how : OwnB Pw B u4 (zr ++ enc4 (ini.take m)) := mem.own_chg HO0.out HCPw.out (by simp); have hrd : ReadsB Pw pw (leB x 4) := HPw.out.reads (leB_wf _ _); have hbs : B ≤ Pw.heap.size := Nat.le_trans (Nat.le_of_eq HBE.out) (HC0.out.trans HCPw.out).size; have hln : (zr ++ enc4 (ini.take m)).length + (leB x 4).length ≤ 1000000 := (by have := HLI.out; simp only [leB_length]; omega); refine wpList_app (o := ⟨some 150, _, _, _, _, _⟩) rfl (.tmp 146) (.tmp 149) rfl B u4 (zr ++ enc4 (ini.take m)) rfl how _ (leB x 4) rfl hrd hln hbs ?_; intro v1 V1 ho hc; have HO1 := Lib.hid ho; have HC1 := Lib.hid (app_chg (HC0.out.trans HCPw.out) how HBA.out hc); clear ho hc how hrd hbs hln) | (go_at_call 36; (with_reducible refine (rbytes4 x V0 HXF.out).mono ?_); rintro e Pw ⟨pw, rfl, ho, hc⟩; have HPw := Lib.hid ho; have HCPw : Hid (Chg [] V0 Pw) := Lib.hid hc; clear ho hc))
                  have hmm := HMT.out
                  go_roundw
                  case rel => exact ⟨m + 1, by omega, by go_num, Lib.hid (by have h9 := HO1.out; unfold enc4 at h9 ⊢; rw [flat_snocR (fun x => leB x 4) HIK.out, ← List.append_assoc]; exact h9), HC1⟩
                  case measure => simp [intOf]; omega
                · obtain rfl : m = ini.length := by omega
                  clear hmt hm
                  have HOE : Hid (OwnB V0 B u4 (zz ++ encO (⟨k, w, s, c, st, wri, ini, rds⟩ : POb))) := Lib.hid (by
                    have h9 := HOM.out
                    rw [List.take_length, ← HZR.out.1, ← HZQ.out.1] at h9
                    have h8 : encO (⟨k, w, s, c, st, wri, ini, rds⟩ : POb) = [k, w, s, c] ++ (leB st 4 ++ ([wri, (rds.length : Int)] ++ (enc1 rds ++ ([(ini.length : Int)] ++ enc4 ini)))) := by
                      have h7 := HF7.out
                      unfold encO
                      dsimp only
                      rw [lb1 h7.1, lb1 h7.2.1, lb1 h7.2.2.1, lb1 h7.2.2.2.1, lb1 h7.2.2.2.2.1, lb1 h7.2.2.2.2.2.1, lb1 h7.2.2.2.2.2.2]
                      rfl
                    rw [h8]
                    simp only [List.append_assoc] at h9 ⊢
                    exact h9)
                  go_wp2_with fail
                  have hltj := HLT.out
                  go_roundw
                  case rel => exact ⟨j + 1, by omega, by go_num, Lib.hid (by rw [List.map_take, flat_snocR encO (show (os.map DO.p)[j]? = some (⟨k, w, s, c, st, wri, ini, rds⟩ : POb) by rw [List.getElem?_map, HK.out]; rfl), ← List.append_assoc, ← List.map_take, HZZ.out]; exact HOE.out), HJM⟩
                  case measure => simp [intOf]; omega
        · obtain rfl : os.length = j := by omega
          clear hlt hj
          have HOB : Hid (OwnB wo B u4 (bodyB (ts.map DT.p) (os.map DO.p))) := Lib.hid (by have := HOJ.out; rw [List.take_length] at this; rw [body_hdr, List.length_map, List.length_map]; exact this)
          obtain ⟨zb, hzb⟩ : ∃ zb, bodyB (ts.map DT.p) (os.map DO.p) = zb := ⟨_, rfl⟩
          have HZB : Hid (BytesB zb ∧ zb.length ≤ 900000) := Lib.hid (by rw [← hzb]; exact ⟨body_wf _ _, body_len HFS.out⟩)
          have himg : image (ts.map DT.p) (os.map DO.p) = zb ++ leB (sumM zb) 2 := by unfold image; rw [hzb]
          have HIM := Lib.hid himg
          rw [hzb] at HOB
          have HO0 := HOB
          have HC0 := HJ
          obtain ⟨V0, rfl⟩ : ∃ V0 : World, V0 = wo := ⟨_, rfl⟩
          have HSU := Lib.hid (rSum_any u4 zb V0 (HOB.out.reads HZB.out.1) (by have := HZB.out.2; omega))
          have HSB := Lib.hid (sumM_bd zb)
          have hrr : R = decide ((zb ++ leB (sumM zb) 2).length ≤ 65536) := by rw [← HR.out]; unfold hasI; rw [HFB.out, HIM.out]; rfl
          have hxx : X = if R then zb ++ leB (sumM zb) 2 else [] := by rw [← HX.out]; unfold imageOf; rw [HR.out, HIM.out]
          have HRR := Lib.hid hrr
          have HXX := Lib.hid hxx
          clear hrr hxx HIM HX HR himg hzb HOJ HJ
          generalize sumM zb = sm at *
          go_upto_region 37 with (first | ((with_reducible show wpList _ _ _ (⟨some 157, _, _, _, _, _⟩ :: _) _ _); have how : OwnB Pw B u4 zb := mem.own_chg HO0.out HCPw.out (by simp); have hrd : ReadsB Pw pw (leB sm 2) := HPw.out.reads (leB_wf _ _); have hbs : B ≤ Pw.heap.size := Nat.le_trans (Nat.le_of_eq HBE.out) (HC0.out.trans HCPw.out).size; have hln : zb.length + (leB sm 2).length ≤ 1000000 := (by have := HZB.out.2; simp only [leB_length]; omega); refine wpList_app (o := ⟨some 157, _, _, _, _, _⟩) rfl (.tmp 153) (.tmp 156) rfl B u4 zb rfl how _ (leB sm 2) rfl hrd hln hbs ?_; intro v1 V1 ho hc; have HO1 := Lib.hid ho; have HC1 := Lib.hid (app_chg (HC0.out.trans HCPw.out) how HBA.out hc); clear ho hc how hrd hbs hln) | (go_at_call 36; (with_reducible refine (rbytes2 sm wS HSB.out).mono ?_); rintro e Pw ⟨pw, rfl, ho, hc⟩; have HPw := Lib.hid ho; have HCPw : Hid (Chg [] V0 Pw) := Lib.hid (HCS.out.trans hc); clear ho hc) | (go_at_call 17; refine HSU.out.mono ?_; rintro e wS ⟨rfl, hc⟩; have HCS := Lib.hid hc; clear hc))
          obtain ⟨a6, c6, rfl, -⟩ := reads_slice (Reads.of_own HO1.out (by decide))
          by_cases hbig : (zb ++ leB sm 2).length ≤ 65536
          · obtain rfl : R = true := by rw [HRR.out]; exact decide_eq_true hbig
            have hb2 : ¬ ((65536 : Int) < ((zb ++ leB sm 2).length : Int)) := by omega
            have hb3 : ((zb ++ leB sm 2).length : Int) ≤ 65536 := by omega
            obtain ⟨zf, hzf⟩ : ∃ zf, zb ++ leB sm 2 = zf := ⟨_, rfl⟩
            rw [hzf] at hb2 hb3 HXX HO1 ⊢
            clear hbig hzf
            go_wp2_with fail
            go_ret2
            exact ⟨_, rfl, by rw [HXX.out]; exact own_mono HO1.out (by rw [HBE.out]; exact HCA.out.size), HCA.out.trans HC1.out⟩
          · obtain rfl : R = false := by rw [HRR.out]; exact decide_eq_false hbig
            have hb2 : (65536 : Int) < ((zb ++ leB sm 2).length : Int) := by omega
            obtain rfl : X = [] := by rw [HXX.out]; rfl
            obtain ⟨zf, hzf⟩ : ∃ zf, zb ++ leB sm 2 = zf := ⟨_, rfl⟩
            rw [hzf] at hb2 ⊢
            clear hbig hzf
            go_wp2_with fail
            go_ret2
            exact ⟨_, rfl, OwnB.nil _ _, HCA.out.trans HC1.out⟩
end Go.Proofs.Ytkmalnojkjmjiaa.img
