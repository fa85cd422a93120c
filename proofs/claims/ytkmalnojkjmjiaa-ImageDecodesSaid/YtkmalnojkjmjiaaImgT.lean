/- Images: the reference's Decode. -/
import Derived.Test.YtkmalnojkjmjiaaImgJ
import Derived.Test.YtkmalnojkjmjiaaImgS
namespace Go.Proofs.Ytkmalnojkjmjiaa.img
open Go Go.RowKit Go.Proofs.Ytkmalnojkjmjiaa.kit Go.Proofs.Ytkmalnojkjmjiaa.obj Go.Proofs.Ytkmalnojkjmjiaa.mem Go.Proofs.Ytkmalnojkjmjiaa.lay Go.Proofs.Ytkmalnojkjmjiaa.codec Go.Proofs.Ytkmalnojkjmjiaa.blk
set_option linter.unusedVariables false
set_option linter.unusedSimpArgs false
set_option maxRecDepth 100000
theorem row_step {R : Type} {f : St → R} {g : St → St} {n m : Nat} {ss sx : St} {row : List R} {x : R} (h : row.length = m ∧ rowV f g n ss = row ++ rowV f g (n - m) sx ∧ rowS g n ss = rowS g (n - m) sx) (hg : sx.bad = false) (hx : f sx = x) (hlt : m < n) :
    (row ++ [x]).length = m + 1 ∧ rowV f g n ss = (row ++ [x]) ++ rowV f g (n - (m + 1)) (g sx) ∧ rowS g n ss = rowS g (n - (m + 1)) (g sx) := by
  obtain ⟨h1, h3, h4⟩ := h
  subst hx
  have e : n - m = (n - (m + 1)) + 1 := by omega
  rw [e] at h3 h4
  exact ⟨by simp [h1], by rw [h3, rowV, hg, List.append_assoc]; rfl, by rw [h4, rowS, hg]; rfl⟩
theorem row_done {R : Type} {f : St → R} {g : St → St} {n m : Nat} {ss sx : St} {row : List R} (h : row.length = m ∧ rowV f g n ss = row ++ rowV f g (n - m) sx ∧ rowS g n ss = rowS g (n - m) sx) (hd : n ≤ m ∨ sx.bad = true) : rowV f g n ss = row ∧ rowS g n ss = sx := by
  obtain ⟨h1, h3, h4⟩ := h
  cases hk : n - m with
  | zero => rw [hk] at h3 h4; exact ⟨by rw [h3]; simp [rowV], by rw [h4]; rfl⟩
  | succ k =>
    have hb : sx.bad = true := by rcases hd with hd | hd; omega; exact hd
    rw [hk] at h3 h4
    exact ⟨by rw [h3, rowV, if_pos hb, List.append_nil], by rw [h4, rowS, if_pos hb]⟩
theorem num_next {zs : List Int} {wid n m : Nat} {ss sx sy : St} {row : List Int} {x : Int} (h : row.length = m ∧ (∀ x ∈ row, 0 ≤ x ∧ x < 256 ^ wid) ∧ rowV (rdV zs wid) (rdS zs wid) n ss = row ++ rowV (rdV zs wid) (rdS zs wid) (n - m) sx ∧ rowS (rdS zs wid) n ss = rowS (rdS zs wid) (n - m) sx) (hg : sx.bad = false) (hx : x = rdV zs wid sx ∧ sy = rdS zs wid sx) (hb : 0 ≤ x ∧ x < 256 ^ wid) (hlt : m < n) :
    (row ++ [x]).length = m + 1 ∧ (∀ y ∈ row ++ [x], 0 ≤ y ∧ y < 256 ^ wid) ∧ rowV (rdV zs wid) (rdS zs wid) n ss = (row ++ [x]) ++ rowV (rdV zs wid) (rdS zs wid) (n - (m + 1)) sy ∧ rowS (rdS zs wid) n ss = rowS (rdS zs wid) (n - (m + 1)) sy := by
  obtain ⟨h1, h2, h3, h4⟩ := h
  obtain ⟨rfl, rfl⟩ := hx
  have h9 := row_step (x := rdV zs wid sx) ⟨h1, h3, h4⟩ hg rfl hlt
  refine ⟨h9.1, fun y hy => ?_, h9.2.1, h9.2.2⟩
  rcases List.mem_append.1 hy with hy | hy
  · exact h2 y hy
  · simp at hy; subst hy; exact hb
theorem wpList_append_row {P : Program} {w : World} {ops : Array Oper} {rest : List Oper} {o : Oper} {ac : Act} {Q : Exit → Act → World → Prop} (hgd : o.guard = none) (s x : Operand) (t : TypeId)
    (ho : o.op = .call { callee := .builtin .append, args := #[s, x], argTypes := #[t, t] })
    (base : Nat) (e : TypeId) (i : TypeInfo) (z : Value) (size bytes : Nat) (ht : P.underlying t = some (.slice e)) (hi : P.info? e = some i) (hz : i.zero = some z)
    (hsize : i.size = size) (hby : i.bytes = bytes) (hzs : z.cells.size = size) (hsz : 0 < size)
    (v : Value) (n : Nat) (xs : List Value) (hs : ac.eval s = v) (hown : w.ownsRow base e size v n xs)
    (b : Nat) (us : List Value) (hx : ac.eval x = .slice (some ⟨b, 0, none⟩) 1 1) (hl : us.length = 1 * size) (hb : ∀ (j : Nat) u, us[j]? = some u → w.cell? ⟨b, j, none⟩ = some u) (h1 : ∀ u ∈ us, u.oneCell' = true)
    (h63 : n + 1 ≤ maxLen) (hbytes : (n + 1) * bytes ≤ 140737488355328) (hbase : base ≤ w.heap.size)
    (h : ∀ v' w', w'.ownsRow base e size v' (n + 1) (xs ++ us) → w.grownBy w' v.ownBlock → (∀ y, v'.ownBlock = some y → v.ownBlock = some y ∨ y = w.heap.size) → wpList P ops Q rest (ac.put o.dst v') w') : wpList P ops Q (o :: rest) ac w :=
  wpList_plain hgd fun _ hK => wp_append_row s x t ho base e i z size bytes ht hi hz hsize hby hzs hsz v n xs hs hown b us hx hl hb h1 h63 hbytes hbase fun v' w' h2 h3 h4 => hK _ _ (h v' w' h2 h3 h4)
theorem reads_ins_at (w : World) (i : Ins) (g : Nat) (hg : g = w.heap.size) : Reads (w.alloc (.cells #[.int .i64 i.op, .int .i64 i.a, .int .i64 i.b, .int .i64 i.c, .int .u32 i.n] 60)) 5 (.slice (some ⟨g, 0, none⟩) 1 1) 1 i.cells := by
  subst hg
  exact reads_ins w i
theorem rdec_bad {zs : List Int} {sx sF : St} (hl : zs.length ≤ 65536) (hm : ¬ (3 ≤ zs.length ∧ marks zs = false)) (h7 : s7 zs = sx) (hf : sF = rdS zs 2 sx) (hb : sF.bad = true) : decE zs = 2 ∧ decAt zs = (zs.length : Int) := by
  rw [hf, ← h7] at hb
  unfold decE decAt
  rw [if_neg (by omega), if_neg hm, if_pos hb, if_neg (by omega), if_neg hm, if_pos hb]
  exact ⟨rfl, rfl⟩
theorem rdec_good {zs : List Int} {sx sF : St} {x kp : Int} {kn : Nat} (hl : zs.length ≤ 65536) (hm : ¬ (3 ≤ zs.length ∧ marks zs = false)) (h7 : s7 zs = sx) (hf : sF = rdS zs 2 sx) (hx : x = rdV zs 2 sx) (hb : sF.bad = false) (hk : sx.at_ = kn) :
    (kn + 2 ≤ zs.length ∧ sF.at_ = kn + 2) ∧ (¬ x = sumM (zs.take kn) → decE zs = 4 ∧ decAt zs = (kn : Int)) ∧ (x = sumM (zs.take kn) → (kn + 2 < zs.length → decE zs = 3 ∧ decAt zs = (kn : Int) + 2) ∧ (¬ kn + 2 < zs.length → decE zs = 0 ∧ decAt zs = 0)) := by
  subst h7 hk
  rw [hf] at hb
  have h1 := rd_at hb
  have hbn : ¬ (rdS zs 2 (s7 zs)).bad = true := by rw [hb]; decide
  have hle : (s7 zs).at_ + 2 ≤ zs.length := by
    unfold rdS at hb
    cases hs : (s7 zs).bad
    · rw [hs, if_neg (by decide)] at hb
      by_cases hn : zs.length < (s7 zs).at_ + 2
      · rw [if_pos hn] at hb; cases hb
      · omega
    · rw [hs, if_pos rfl] at hb; rw [hs] at hb; cases hb
  refine ⟨⟨hle, by rw [hf]; exact h1⟩, fun hs => ?_, fun hs => ⟨fun hk => ?_, fun hk => ?_⟩⟩
  · rw [hx] at hs
    unfold decE decAt
    rw [if_neg (by omega), if_neg hm, if_neg hbn, if_pos hs, if_neg (by omega), if_neg hm, if_neg hbn, if_pos hs]
    exact ⟨rfl, rfl⟩
  · rw [hx] at hs
    unfold decE decAt
    rw [if_neg (by omega), if_neg hm, if_neg hbn, if_neg (fun h => h hs), if_pos hk, if_neg (by omega), if_neg hm, if_neg hbn, if_neg (fun h => h hs), if_pos hk]
    exact ⟨rfl, rfl⟩
  · rw [hx] at hs
    unfold decE decAt
    rw [if_neg (by omega), if_neg hm, if_neg hbn, if_neg (fun h => h hs), if_neg hk, if_neg (by omega), if_neg hm, if_neg hbn, if_neg (fun h => h hs), if_neg hk]
    exact ⟨rfl, rfl⟩
theorem rq_new {W w : World} {v : Value} {zs : List Int} (hr : ReadsB W v zs) (hc : Chg [] W w) (hl : zs.length ≤ 65536) : RQ (w.alloc (.cells #[v, .int .i64 0, .bool false] 57)) w.heap.size v zs ⟨0, false⟩ :=
  ⟨Blk.new _ _ _, ⟨W, hc.size, hc.alloc _, hr⟩, Nat.zero_le _, hl⟩
set_option maxHeartbeats 64000000 in
theorem rDecode_any (v : Value) (zs : List Int) (W : World) (hr : ReadsB W v zs) (hl : zs.length ≤ 65536) :
    Calls Try.prog 9 #[v] W fun e W' => ∃ ta tc oa oc ts os, e = .returned (.tuple #[.agg #[.slice ta ts.length tc, .slice oa os.length oc], .int .i64 (decAt zs), .int .i64 (decE zs)]) ∧ DecOk zs ts os ∧ ReadsDT W' (.slice ta ts.length tc) ts ∧ ReadsDO W' (.slice oa os.length oc) os ∧ Chg [] W W' := by
  obtain ⟨va, vc, rfl, -⟩ := reads_slice hr.1
  have HRB := Lib.hid hr
  have HL := Lib.hid hl
  have HI1 : Hid (∃ i0, Try.prog.info? 41 = some i0 ∧ i0.zero = some (.agg #[.int .i64 0, .int .i64 0, .int .i64 0, .int .i64 0, .int .i64 0, .int .i64 0, .slice none 0 0]) ∧ i0.size = 7 ∧ i0.bytes = 72) := Lib.hid (info_parts infoTask)
  have HI2 : Hid (∃ i0, Try.prog.info? 53 = some i0 ∧ i0.zero = some (.agg #[.int .i64 0, .int .i64 0, .int .i64 0, .int .i64 0, .int .u32 0, .slice none 0 0, .int .i64 0, .slice none 0 0]) ∧ i0.size = 8 ∧ i0.bytes = 96) := Lib.hid (info_parts infoObj)
  have HI3 : Hid (∃ i0, Try.prog.info? 60 = some i0 ∧ i0.zero = some (.agg #[.int .i64 0, .int .i64 0, .int .i64 0, .int .i64 0, .int .u32 0]) ∧ i0.size = 5 ∧ i0.bytes = 40) := Lib.hid (info_parts infoIns)
  have HI4 : Hid (∃ i0, Try.prog.info? 3 = some i0 ∧ i0.zero = some (.int .i64 0) ∧ i0.size = 1 ∧ i0.bytes = 8) := Lib.hid (info_parts infoI)
  have HI5 : Hid (∃ i0, Try.prog.info? 49 = some i0 ∧ i0.zero = some (.int .u32 0) ∧ i0.size = 1 ∧ i0.bytes = 4) := Lib.hid (info_parts info32)
  have HCA : Hid (Chg [] W (W.alloc (.cells #[.slice none 0 0, .slice none 0 0] 27))) := Lib.hid ((Chg.refl _ _).alloc _)
  have HBR00 : Hid (Blk (W.alloc (.cells #[.slice none 0 0, .slice none 0 0] 27)) W.heap.size #[.slice none 0 0, .slice none 0 0] 27) := Lib.hid (Blk.new W _ _)
  obtain ⟨b, hb⟩ : ∃ b, b = (W.alloc (.cells #[.slice none 0 0, .slice none 0 0] 27)).heap.size := ⟨_, rfl⟩
  have HBW : Hid (b = W.heap.size + 1) := Lib.hid (by rw [hb]; simp)
  have HQ0 : Hid (RQ ((W.alloc (.cells #[.slice none 0 0, .slice none 0 0] 27)).alloc (.cells #[(.slice va zs.length vc), .int .i64 0, .bool false] 57)) b (.slice va zs.length vc) zs ⟨0, false⟩) := Lib.hid (by rw [hb]; exact rq_new hr HCA.out hl)
  have HBX := Lib.hid hb
  obtain ⟨bb, off, hix, hcell, hown⟩ := reads_index (P := Try.prog) Try.underlying22 sz5 hr.1
  have HIX := Lib.hid hix
  have HCELL := Lib.hid hcell
  have hbig : ¬ ((65536 : Int) < (zs.length : Int)) := by omega
  have hbig2 : (zs.length : Int) ≤ 65536 := by omega
  obtain ⟨BM, hBM⟩ : ∃ BM, decide (3 ≤ zs.length ∧ marks zs = false) = BM := ⟨_, rfl⟩
  have HBM := Lib.hid hBM
  clear hr hl hb hix hcell hown hBM
  go_enter Try.func9, Try.ntmps9
  go_upto_region 3 with fail
  go_cut [43] from 23 to 43 (fun cv wc => cv = .bool BM ∧ (W.alloc (.cells #[.slice none 0 0, .slice none 0 0] 27)) = wc)
  case first =>
    by_cases h3 : 3 ≤ zs.length
    · have h3i : (3 : Int) ≤ (zs.length : Int) := by omega
      have i0 : ∀ u, (Instr.indexAt 22 (.slice va zs.length vc) (.int .i64 0)).run Try.prog u = .ok (.pointer (some ⟨bb, off, none⟩)) u := fun u => by have h9 := HIX.out 0 (by omega) u; simpa using h9
      have i1 : ∀ u, (Instr.indexAt 22 (.slice va zs.length vc) (.int .i64 1)).run Try.prog u = .ok (.pointer (some ⟨bb, off + 1, none⟩)) u := fun u => by have h9 := HIX.out 1 (by omega) u; simpa using h9
      have i2 : ∀ u, (Instr.indexAt 22 (.slice va zs.length vc) (.int .i64 2)).run Try.prog u = .ok (.pointer (some ⟨bb, off + 2, none⟩)) u := fun u => by have h9 := HIX.out 2 (by omega) u; simpa using h9
      have g : ∀ i, i < 3 → (W.alloc (.cells #[.slice none 0 0, .slice none 0 0] 27)).cell? ⟨bb, off + i, none⟩ = some (.int .u8 (zs.getD i 0)) := fun i hi => HCA.out.keep (HCELL.out i _ (by rw [List.getElem?_map, List.getElem?_eq_getElem (by omega), List.getD_eq_getElem?_getD, List.getElem?_eq_getElem (by omega)]; rfl)) (by simp)
      have g0 := g 0 (by decide)
      rw [Nat.add_zero] at g0
      have g1 := g 1 (by decide)
      have g2 := g 2 (by decide)
      clear g
      have hm : BM = decide (¬ (zs.getD 0 0 = 67 ∧ zs.getD 1 0 = 88 ∧ zs.getD 2 0 = 1)) := by
        rw [← HBM.out]
        unfold marks
        by_cases hh : zs.getD 0 0 = 67 ∧ zs.getD 1 0 = 88 ∧ zs.getD 2 0 = 1
        · rw [decide_eq_true hh, decide_eq_false (by simp), decide_eq_false (fun h => h hh)]
        · rw [decide_eq_false hh, decide_eq_true ⟨h3, rfl⟩, decide_eq_true hh]
      obtain ⟨xa, hxa⟩ : ∃ x, zs.getD 0 0 = x := ⟨_, rfl⟩
      obtain ⟨xb, hxb⟩ : ∃ x, zs.getD 1 0 = x := ⟨_, rfl⟩
      obtain ⟨xc, hxc⟩ : ∃ x, zs.getD 2 0 = x := ⟨_, rfl⟩
      rw [hxa] at g0
      rw [hxb] at g1
      rw [hxc] at g2
      rw [hxa, hxb, hxc] at hm
      clear hxa hxb hxc h3
      by_cases h1 : xa = 67
      · by_cases h2 : xb = 88
        · by_cases h4 : xc = 1
          · obtain rfl : BM = false := by rw [hm, h1, h2, h4]; rfl
            have h1b : (xa != 67) = false := by simpa using h1
            have h2b : (xb != 88) = false := by simpa using h2
            have h4b : (xc != 1) = false := by simpa using h4
            clear hm h1 h2 h4
            go_wp2_with fail
            go_meet
            case rel => exact ⟨rfl, rfl⟩
          · obtain rfl : BM = true := by rw [hm]; simp [h4]
            have h1b : (xa != 67) = false := by simpa using h1
            have h2b : (xb != 88) = false := by simpa using h2
            have h4b : (xc != 1) = true := by simpa using h4
            clear hm h1 h2 h4
            go_wp2_with fail
            go_meet
            case rel => exact ⟨rfl, rfl⟩
        · obtain rfl : BM = true := by rw [hm]; simp [h2]
          have h1b : (xa != 67) = false := by simpa using h1
          have h2b : (xb != 88) = true := by simpa using h2
          clear hm h1 h2
          go_wp2_with fail
          go_meet
          case rel => exact ⟨rfl, rfl⟩
      · obtain rfl : BM = true := by rw [hm]; simp [h1]
        have h1b : (xa != 67) = true := by simpa using h1
        clear hm h1
        go_wp2_with fail
        go_meet
        case rel => exact ⟨rfl, rfl⟩
    · have h3i : ¬ (3 : Int) ≤ (zs.length : Int) := by omega
      obtain rfl : BM = false := by rw [← HBM.out]; simp [h3]
      clear h3
      go_wp2_with fail
      go_meet
      case rel => exact ⟨rfl, rfl⟩
  case rest =>
  obtain ⟨rfl, rfl⟩ := hcut
  cases BM
  rotate_left
  · have hmk := of_decide_eq_true HBM.out
    have HMK := Lib.hid hmk
    clear hmk
    go_wp2_with (refine wpList_store_blk rfl 27 (.tmp 2) (.tmp 44) rfl W.heap.size #[.slice none 0 0, .slice none 0 0] rfl rfl HBR00.out szSystem rfl (by simp [Value.oneCell']) ?_; intro w9 hb9 hc9; have HB9 := Lib.hid hb9; have HC9 := Lib.hid hc9; clear hb9 hc9)
    refine bodyPost_ret (results_row_tmp2 rfl _ _ W.heap.size 27 #[.slice none 0 0, .slice none 0 0] (0, 0) _ rfl HB9.out Try.underlying27 rfl szSystem) rfl ?_
    have hde : decE zs = 4 ∧ decAt zs = 0 := by unfold decE decAt; rw [if_neg (by have := HL.out; omega), if_pos HMK.out, if_neg (by have := HL.out; omega), if_pos HMK.out]; exact ⟨rfl, rfl⟩
    refine ⟨none, 0, none, 0, [], [], ?_, ⟨?_, ?_, by simp, by simp⟩, ⟨⟨Reads.nil _ _, by simp⟩, by simp⟩, ⟨Reads.nil _ _, by simp⟩, HCA.out.into HC9.out (fun y hy => .inr (by simp at hy; omega))⟩
    · rw [hde.1, hde.2]; rfl
    · rw [if_neg (by rw [hde.1]; decide)]; rfl
    · rw [if_neg (by rw [hde.1]; decide)]; rfl
  have HPM : Hid (¬ (3 ≤ zs.length ∧ marks zs = false)) := Lib.hid (of_decide_eq_false HBM.out)
  have HC2 : Hid (Chg [b] ((W.alloc (.cells #[.slice none 0 0, .slice none 0 0] 27)).alloc (.cells #[(.slice va zs.length vc), .int .i64 0, .bool false] 57)) ((W.alloc (.cells #[.slice none 0 0, .slice none 0 0] 27)).alloc (.cells #[(.slice va zs.length vc), .int .i64 0, .bool false] 57))) := Lib.hid (Chg.refl _ _)
  have HQ2 := HQ0
  go_upto_region 6 with fail
  rw [← HBW.out]
  go_upto_block 0 with (first | (go_at_call 25; (with_reducible refine (rnum1 b (.slice va zs.length vc) zs _ _ HQ4.out).mono ?_); rintro e w5 ⟨x5, s5, rfl, HX5, hr, hc⟩; have HQ5 := Lib.hid hr; have HC5 := Lib.hid (HC4.out.trans hc); (obtain ⟨n2, rfl⟩ : ∃ n : Nat, x5 = (n : Int) := ⟨x5.toNat, (by have := HX5.out; omega)⟩); clear hr hc) | (go_at_call 25; (with_reducible refine (rnum1 b (.slice va zs.length vc) zs _ _ HQ3.out).mono ?_); rintro e w4 ⟨x4, s4, rfl, HX4, hr, hc⟩; have HQ4 := Lib.hid hr; have HC4 := Lib.hid (HC3.out.trans hc); (obtain ⟨n1, rfl⟩ : ∃ n : Nat, x4 = (n : Int) := ⟨x4.toNat, (by have := HX4.out; omega)⟩); clear hr hc) | (go_at_call 25; (with_reducible refine (rnum3 b (.slice va zs.length vc) zs _ _ HQ2.out).mono ?_); rintro e w3 ⟨x3, s3, rfl, HX3, hr, hc⟩; have HQ3 := Lib.hid hr; have HC3 := Lib.hid (HC2.out.trans hc); clear hr hc))
  have HW5 : Hid (W.heap.size + 1 < w5.heap.size) := Lib.hid (by have := HQ5.out.box.lt; have := HBW.out; omega)
  obtain ⟨wS, hwS⟩ : ∃ wS, wS = w5.alloc (.cells #[.slice none 0 0, .slice none 0 0] 27) := ⟨_, rfl⟩
  obtain ⟨nb1, hnb1⟩ : ∃ q, q = wS.heap.size := ⟨_, rfl⟩
  have HN1 := Lib.hid hnb1
  have HWS := Lib.hid hwS
  have HN2B : Hid (n1 ≤ 255 ∧ n2 ≤ 255) := Lib.hid (by have := HX4.out; have := HX5.out; omega)
  have HBSB : Hid (b < w5.heap.size ∧ w5.heap.size < nb1) := Lib.hid ⟨HQ5.out.box.lt, by rw [hnb1, hwS]; simp⟩
  have HBS0 : Hid (Blk wS w5.heap.size #[.slice none 0 0, .slice none 0 0] 27) := Lib.hid (by rw [hwS]; exact Blk.new w5 _ _)
  have HRS0 : Hid (RQ wS b (.slice va zs.length vc) zs s5) := Lib.hid (by rw [hwS]; exact HQ5.out.keep (L := []) ((Chg.refl _ _).alloc _) (by simp))
  clear hnb1 hwS
  rw [← HWS.out]
  go_cut [9, 10, 11, 12] from 54 to 126 (fun _ _ _ _ wc => ∃ (sx : St) (ds : List DT) (ra_ : Option Addr) (rc_ : Nat), Hid ((rowV (tkV zs) (tkS zs) n1 s5 = ds.map DT.p ∧ rowS (tkS zs) n1 s5 = sx) ∧ ds.length ≤ n1) ∧ Hid (Blk wc w5.heap.size #[.slice ra_ ds.length rc_, .slice none 0 0] 27) ∧ Hid (OwnTs wc nb1 (.slice ra_ ds.length rc_) ds) ∧ Hid (∀ d ∈ ds, SubT wc nb1 d) ∧ Hid (RQ wc b (.slice va zs.length vc) zs sx) ∧ Hid (Chg [b, w5.heap.size] wS wc))
  case first =>
    go_wp2_with fail
    go_loopw [9] (fun i wr => ∃ (m : Nat) (sx : St) (ds : List DT) (ra_ : Option Addr) (rc_ : Nat), m ≤ n1 ∧ i = .int .i64 m ∧ Hid ((ds.map DT.p).length = m ∧ rowV (tkV zs) (tkS zs) n1 s5 = ds.map DT.p ++ rowV (tkV zs) (tkS zs) (n1 - m) sx ∧ rowS (tkS zs) n1 s5 = rowS (tkS zs) (n1 - m) sx) ∧ Hid (Blk wr w5.heap.size #[.slice ra_ ds.length rc_, .slice none 0 0] 27) ∧ Hid (OwnTs wr nb1 (.slice ra_ ds.length rc_) ds) ∧ Hid (∀ d ∈ ds, SubT wr nb1 d ∧ ∀ y ∈ NbT d, (Value.slice ra_ ds.length rc_).ownBlock ≠ some y) ∧ Hid (RQ wr b (.slice va zs.length vc) zs sx) ∧ Hid (Chg [b, w5.heap.size] wS wr)) (fun i _ => n1 - (intOf i).toNat)
    case atStart => exact ⟨0, s5, [], none, 0, Nat.zero_le _, rfl, Lib.hid ⟨rfl, by simp, by simp⟩, HBS0, Lib.hid (World.ownsRow_nil _ _ _ _), Lib.hid (by simp), HRS0, Lib.hid (Chg.refl _ _)⟩
    case round =>
      clear HBS0 HRS0
      obtain ⟨m, sx, ds, ra_, rc_, hm, rfl, HLX, HBT, HOW, HSB, HRS, HJ⟩ := hrel
      obtain ⟨wo, rfl⟩ : ∃ wo : World, wo = wr := ⟨_, rfl⟩
      have c2 := HRS.out.box.cell (o := 2) rfl
      by_cases hlt : m < n1
      · have hmn : (m : Int) < (n1 : Int) := by omega
        cases hbad : sx.bad
        · rw [hbad] at c2
          have HBAD := Lib.hid hbad
          have HLT := Lib.hid hlt
          have hm1000 : (m : Int) < 1000 := by have := HN2B.out; omega
          have k8 : IntKind.i64.wrap ((m : Int) + 1) = (m : Int) + 1 := by rw [IntKind.wrap_i64]; omega
          have HG : Hid (b < w5.heap.size ∧ w5.heap.size < nb1 ∧ nb1 ≤ wo.heap.size) := Lib.hid ⟨HBSB.out.1, HBSB.out.2, by rw [HN1.out]; exact HJ.out.size⟩
          clear hbad hlt hm
          go_upto_region 14 with (refine wpList_store_blk rfl 41 (.tmp 10) (.tmp 66) rfl wo.heap.size #[.int .i64 0, .int .i64 0, .int .i64 0, .int .i64 0, .int .i64 0, .int .i64 0, .slice none 0 0] rfl rfl (Blk.new wo #[.int .i64 0, .int .i64 0, .int .i64 0, .int .i64 0, .int .i64 0, .int .i64 0, .slice none 0 0] 41) szTask rfl (by simp [Value.oneCell']) ?_; intro wgt hb9 hc9; have HBt0 := Lib.hid hb9; have HCtq : Hid (Chg [] wo wgt) := Lib.hid (((Chg.refl [] wo).alloc _).into hc9 (fun y hy => .inr (by simp at hy; omega))); have HCt0 : Hid (Chg [b] wo wgt) := Lib.hid (HCtq.out.mono (by simp)); have HRt0 := Lib.hid (HRS.out.keep HCtq.out (by simp)); clear hb9 hc9)
          go_upto_block 2 with (first | (go_at_call 25; (with_reducible refine (rnum1 b (.slice va zs.length vc) zs _ _ HRt6.out).mono ?_); rintro e wt7 ⟨x7, st7, rfl, HXt7, hr, hc⟩; have HRt7 := Lib.hid hr; have HCt7 : Hid (Chg [b] wo wt7) := Lib.hid (HCt6.out.trans hc); (obtain ⟨n7, rfl⟩ : ∃ n : Nat, x7 = (n : Int) := ⟨x7.toNat, (by have := HXt7.out; omega)⟩); have HBt7 := Lib.hid (HBt6.out.keep hc (by have := HG.out; simp; omega)); clear hr hc) | (go_at_call 25; (with_reducible refine (rnum1 b (.slice va zs.length vc) zs _ _ HRt5.out).mono ?_); rintro e wt6 ⟨own, st6, rfl, HXt6, hr, hc⟩; have hb9 := HBt5.out.keep hc (by have := HG.out; simp; omega); have ft6 := hb9.free 5; have et6 := hb9.cell (o := 5) rfl; have HRt6 := Lib.hid (hr.keep (L := [wo.heap.size]) ((Chg.refl _ wt6).setCell (p := ⟨wo.heap.size, 5, none⟩) (.inl (by simp)) (.int .i64 own)) (by have := HG.out; simp; omega)); have HBt6 : Hid (Blk (wt6.setCell ⟨wo.heap.size, 5, none⟩ (.int .i64 own)) wo.heap.size #[.int .i64 kind, .int .i64 prio, .int .i64 period, .int .i64 offset, .int .i64 deadline, .int .i64 own, .slice none 0 0] 41) := Lib.hid (by have h9 := hb9.set 5 (.int .i64 own); simp only [List.setIfInBounds_toArray, List.set_cons_zero, List.set_cons_succ] at h9; exact h9); have HCt6 : Hid (Chg [b] wo (wt6.setCell ⟨wo.heap.size, 5, none⟩ (.int .i64 own))) := Lib.hid ((HCt5.out.trans hc).setCell (.inr (by exact Nat.le_refl _)) _); clear hr hc hb9) | (go_at_call 25; (with_reducible refine (rnum4 b (.slice va zs.length vc) zs _ _ HRt4.out).mono ?_); rintro e wt5 ⟨deadline, st5, rfl, HXt5, hr, hc⟩; have hb9 := HBt4.out.keep hc (by have := HG.out; simp; omega); have ft5 := hb9.free 4; have et5 := hb9.cell (o := 4) rfl; have HRt5 := Lib.hid (hr.keep (L := [wo.heap.size]) ((Chg.refl _ wt5).setCell (p := ⟨wo.heap.size, 4, none⟩) (.inl (by simp)) (.int .i64 deadline)) (by have := HG.out; simp; omega)); have HBt5 : Hid (Blk (wt5.setCell ⟨wo.heap.size, 4, none⟩ (.int .i64 deadline)) wo.heap.size #[.int .i64 kind, .int .i64 prio, .int .i64 period, .int .i64 offset, .int .i64 deadline, .int .i64 0, .slice none 0 0] 41) := Lib.hid (by have h9 := hb9.set 4 (.int .i64 deadline); simp only [List.setIfInBounds_toArray, List.set_cons_zero, List.set_cons_succ] at h9; exact h9); have HCt5 : Hid (Chg [b] wo (wt5.setCell ⟨wo.heap.size, 4, none⟩ (.int .i64 deadline))) := Lib.hid ((HCt4.out.trans hc).setCell (.inr (by exact Nat.le_refl _)) _); clear hr hc hb9) | (go_at_call 25; (with_reducible refine (rnum4 b (.slice va zs.length vc) zs _ _ HRt3.out).mono ?_); rintro e wt4 ⟨offset, st4, rfl, HXt4, hr, hc⟩; have hb9 := HBt3.out.keep hc (by have := HG.out; simp; omega); have ft4 := hb9.free 3; have et4 := hb9.cell (o := 3) rfl; have HRt4 := Lib.hid (hr.keep (L := [wo.heap.size]) ((Chg.refl _ wt4).setCell (p := ⟨wo.heap.size, 3, none⟩) (.inl (by simp)) (.int .i64 offset)) (by have := HG.out; simp; omega)); have HBt4 : Hid (Blk (wt4.setCell ⟨wo.heap.size, 3, none⟩ (.int .i64 offset)) wo.heap.size #[.int .i64 kind, .int .i64 prio, .int .i64 period, .int .i64 offset, .int .i64 0, .int .i64 0, .slice none 0 0] 41) := Lib.hid (by have h9 := hb9.set 3 (.int .i64 offset); simp only [List.setIfInBounds_toArray, List.set_cons_zero, List.set_cons_succ] at h9; exact h9); have HCt4 : Hid (Chg [b] wo (wt4.setCell ⟨wo.heap.size, 3, none⟩ (.int .i64 offset))) := Lib.hid ((HCt3.out.trans hc).setCell (.inr (by exact Nat.le_refl _)) _); clear hr hc hb9) | (go_at_call 25; (with_reducible refine (rnum4 b (.slice va zs.length vc) zs _ _ HRt2.out).mono ?_); rintro e wt3 ⟨period, st3, rfl, HXt3, hr, hc⟩; have hb9 := HBt2.out.keep hc (by have := HG.out; simp; omega); have ft3 := hb9.free 2; have et3 := hb9.cell (o := 2) rfl; have HRt3 := Lib.hid (hr.keep (L := [wo.heap.size]) ((Chg.refl _ wt3).setCell (p := ⟨wo.heap.size, 2, none⟩) (.inl (by simp)) (.int .i64 period)) (by have := HG.out; simp; omega)); have HBt3 : Hid (Blk (wt3.setCell ⟨wo.heap.size, 2, none⟩ (.int .i64 period)) wo.heap.size #[.int .i64 kind, .int .i64 prio, .int .i64 period, .int .i64 0, .int .i64 0, .int .i64 0, .slice none 0 0] 41) := Lib.hid (by have h9 := hb9.set 2 (.int .i64 period); simp only [List.setIfInBounds_toArray, List.set_cons_zero, List.set_cons_succ] at h9; exact h9); have HCt3 : Hid (Chg [b] wo (wt3.setCell ⟨wo.heap.size, 2, none⟩ (.int .i64 period))) := Lib.hid ((HCt2.out.trans hc).setCell (.inr (by exact Nat.le_refl _)) _); clear hr hc hb9) | (go_at_call 25; (with_reducible refine (rnum1 b (.slice va zs.length vc) zs _ _ HRt1.out).mono ?_); rintro e wt2 ⟨prio, st2, rfl, HXt2, hr, hc⟩; have hb9 := HBt1.out.keep hc (by have := HG.out; simp; omega); have ft2 := hb9.free 1; have et2 := hb9.cell (o := 1) rfl; have HRt2 := Lib.hid (hr.keep (L := [wo.heap.size]) ((Chg.refl _ wt2).setCell (p := ⟨wo.heap.size, 1, none⟩) (.inl (by simp)) (.int .i64 prio)) (by have := HG.out; simp; omega)); have HBt2 : Hid (Blk (wt2.setCell ⟨wo.heap.size, 1, none⟩ (.int .i64 prio)) wo.heap.size #[.int .i64 kind, .int .i64 prio, .int .i64 0, .int .i64 0, .int .i64 0, .int .i64 0, .slice none 0 0] 41) := Lib.hid (by have h9 := hb9.set 1 (.int .i64 prio); simp only [List.setIfInBounds_toArray, List.set_cons_zero, List.set_cons_succ] at h9; exact h9); have HCt2 : Hid (Chg [b] wo (wt2.setCell ⟨wo.heap.size, 1, none⟩ (.int .i64 prio))) := Lib.hid ((HCt1.out.trans hc).setCell (.inr (by exact Nat.le_refl _)) _); clear hr hc hb9) | (go_at_call 25; (with_reducible refine (rnum1 b (.slice va zs.length vc) zs _ _ HRt0.out).mono ?_); rintro e wt1 ⟨kind, st1, rfl, HXt1, hr, hc⟩; have hb9 := HBt0.out.keep hc (by have := HG.out; simp; omega); have ft1 := hb9.free 0; have et1 := hb9.cell (o := 0) rfl; have HRt1 := Lib.hid (hr.keep (L := [wo.heap.size]) ((Chg.refl _ wt1).setCell (p := ⟨wo.heap.size, 0, none⟩) (.inl (by simp)) (.int .i64 kind)) (by have := HG.out; simp; omega)); have HBt1 : Hid (Blk (wt1.setCell ⟨wo.heap.size, 0, none⟩ (.int .i64 kind)) wo.heap.size #[.int .i64 kind, .int .i64 0, .int .i64 0, .int .i64 0, .int .i64 0, .int .i64 0, .slice none 0 0] 41) := Lib.hid (by have h9 := hb9.set 0 (.int .i64 kind); simp only [List.setIfInBounds_toArray, List.set_cons_zero, List.set_cons_succ] at h9; exact h9); have HCt1 : Hid (Chg [b] wo (wt1.setCell ⟨wo.heap.size, 0, none⟩ (.int .i64 kind))) := Lib.hid ((HCt0.out.trans hc).setCell (.inr (by exact Nat.le_refl _)) _); clear hr hc hb9))
          have HN7 : Hid (n7 ≤ 255) := Lib.hid (by have := HXt7.out; omega)
          clear c2
          go_cut [11, 12] from 87 to 120 (fun _ _ wc => ∃ (sy : St) (code : List Ins) (ca_ : Option Addr) (cc_ : Nat), Hid ((rowV (insV zs) (insS zs) n7 st7 = code ∧ rowS (insS zs) n7 st7 = sy) ∧ code.length ≤ 255 ∧ ∀ x ∈ code, fit4 x.n) ∧ Hid (Blk wc wo.heap.size #[.int .i64 kind, .int .i64 prio, .int .i64 period, .int .i64 offset, .int .i64 deadline, .int .i64 own, .slice ca_ code.length cc_] 41) ∧ Hid (OwnC wc wt7.heap.size (.slice ca_ code.length cc_) code) ∧ Hid (RQ wc b (.slice va zs.length vc) zs sy) ∧ Hid (Chg [b, wo.heap.size] wt7 wc))
          case first =>
            go_wp2_with fail
            go_loopw [11] (fun i wr => ∃ (m : Nat) (z : Int) (sy : St) (code : List Ins) (ca_ : Option Addr) (cc_ : Nat), m ≤ n7 ∧ 0 ≤ z ∧ z ≤ 255 ∧ Hid (z = (n7 : Int) - (m : Int)) ∧ i = .int .i64 z ∧ Hid (code.length = m ∧ (∀ x ∈ code, fit4 x.n) ∧ rowV (insV zs) (insS zs) n7 st7 = code ++ rowV (insV zs) (insS zs) (n7 - m) sy ∧ rowS (insS zs) n7 st7 = rowS (insS zs) (n7 - m) sy) ∧ Hid (Blk wr wo.heap.size #[.int .i64 kind, .int .i64 prio, .int .i64 period, .int .i64 offset, .int .i64 deadline, .int .i64 own, .slice ca_ code.length cc_] 41) ∧ Hid (OwnC wr wt7.heap.size (.slice ca_ code.length cc_) code) ∧ Hid (RQ wr b (.slice va zs.length vc) zs sy) ∧ Hid (Chg [b, wo.heap.size] wt7 wr)) (fun i _ => (intOf i).toNat)
            case atStart => exact ⟨0, (n7 : Int), st7, [], none, 0, Nat.zero_le _, by omega, by have := HN7.out; omega, Lib.hid (by simp), rfl, Lib.hid ⟨rfl, by simp, by simp, by simp⟩, HBt7, Lib.hid (World.ownsRow_nil _ _ _ _), HRt7, Lib.hid (Chg.refl _ _)⟩
            case round =>
              obtain ⟨m, z, sy, code, ca_, cc_, hm, hz0, hz1, HZ, rfl, HLX, HBTi, HOW2, HRS, HJ2⟩ := hrel
              obtain ⟨wi, rfl⟩ : ∃ wi : World, wi = wr := ⟨_, rfl⟩
              have c2 := HRS.out.box.cell (o := 2) rfl
              by_cases h0 : 0 < z
              · cases hbad : sy.bad
                · have HBAD := Lib.hid hbad
                  have HM : Hid (m < n7) := Lib.hid (by have := HZ.out; omega)
                  have HLB : Hid (code.length ≤ 1000) := Lib.hid (by have := HLX.out.1; have := HM.out; have := HN7.out; omega)
                  have HGI : Hid (wt7.heap.size ≤ wi.heap.size) := Lib.hid HJ2.out.size
                  have HG0 := HG
                  have HG : Hid (b < w5.heap.size ∧ w5.heap.size < nb1 ∧ nb1 ≤ wo.heap.size ∧ wo.heap.size < wt7.heap.size ∧ wt7.heap.size ≤ wi.heap.size) := Lib.hid ⟨HG0.out.1, HG0.out.2.1, HG0.out.2.2, HBt7.out.lt, HGI.out⟩
                  have k1 : IntKind.i64.wrap (z - 1) = z - 1 := by rw [IntKind.wrap_i64]; omega
                  rw [hbad] at c2
                  clear hbad hm
                  go_upto_region 24 with (refine wpList_store_blk rfl 60 (.tmp 12) (.tmp 98) rfl wi.heap.size #[.int .i64 0, .int .i64 0, .int .i64 0, .int .i64 0, .int .u32 0] rfl rfl (Blk.new wi #[.int .i64 0, .int .i64 0, .int .i64 0, .int .i64 0, .int .u32 0] 60) szIns rfl (by simp [Value.oneCell']) ?_; intro wgi hb9 hc9; have HBi0 := Lib.hid hb9; have HCiq : Hid (Chg [] wi wgi) := Lib.hid (((Chg.refl [] wi).alloc _).into hc9 (fun y hy => .inr (by simp at hy; omega))); have HCi0 : Hid (Chg [b] wi wgi) := Lib.hid (HCiq.out.mono (by simp)); have HRi0 := Lib.hid (HRS.out.keep HCiq.out (by simp)); have HBK := Lib.hid (HBTi.out.keep HCiq.out (by simp)); clear hb9 hc9)
                  go_upto_region 29 with (first | (go_at_call 25; (with_reducible refine (rnum4 b (.slice va zs.length vc) zs _ _ HRi4.out).mono ?_); rintro e wi5 ⟨iN, si5, rfl, HXi5, hr, hc⟩; have hb9 := HBi4.out.keep hc (by have := HG.out; simp; omega); have fi5 := hb9.free 4; have ei5 := hb9.cell (o := 4) rfl; have HRi5 := Lib.hid (hr.keep (L := [wi.heap.size]) ((Chg.refl _ wi5).setCell (p := ⟨wi.heap.size, 4, none⟩) (.inl (by simp)) (.int .u32 iN)) (by have := HG.out; simp; omega)); have HBi5 : Hid (Blk (wi5.setCell ⟨wi.heap.size, 4, none⟩ (.int .u32 iN)) wi.heap.size #[.int .i64 iop, .int .i64 ia, .int .i64 ib, .int .i64 ic, .int .u32 iN] 60) := Lib.hid (by have h9 := hb9.set 4 (.int .u32 iN); simp only [List.setIfInBounds_toArray, List.set_cons_zero, List.set_cons_succ] at h9; exact h9); have HCi5 : Hid (Chg [b] wi (wi5.setCell ⟨wi.heap.size, 4, none⟩ (.int .u32 iN))) := Lib.hid ((HCi4.out.trans hc).setCell (.inr (by exact Nat.le_refl _)) _); have kwi5 : IntKind.u32.wrap iN = iN := (by have := HXi5.out; rw [IntKind.wrap_u32]; omega); have HBK := Lib.hid ((HBK.out.keep hc (by have := HG.out; simp; omega)).set_ne (b' := wi.heap.size) (by have := HG.out; omega) 4 none (.int .u32 iN)); clear hr hc hb9; have e6 := HBK.out.cell (o := 6) rfl) | (go_at_call 25; (with_reducible refine (rnum1 b (.slice va zs.length vc) zs _ _ HRi3.out).mono ?_); rintro e wi4 ⟨ic, si4, rfl, HXi4, hr, hc⟩; have hb9 := HBi3.out.keep hc (by have := HG.out; simp; omega); have fi4 := hb9.free 3; have ei4 := hb9.cell (o := 3) rfl; have HRi4 := Lib.hid (hr.keep (L := [wi.heap.size]) ((Chg.refl _ wi4).setCell (p := ⟨wi.heap.size, 3, none⟩) (.inl (by simp)) (.int .i64 ic)) (by have := HG.out; simp; omega)); have HBi4 : Hid (Blk (wi4.setCell ⟨wi.heap.size, 3, none⟩ (.int .i64 ic)) wi.heap.size #[.int .i64 iop, .int .i64 ia, .int .i64 ib, .int .i64 ic, .int .u32 0] 60) := Lib.hid (by have h9 := hb9.set 3 (.int .i64 ic); simp only [List.setIfInBounds_toArray, List.set_cons_zero, List.set_cons_succ] at h9; exact h9); have HCi4 : Hid (Chg [b] wi (wi4.setCell ⟨wi.heap.size, 3, none⟩ (.int .i64 ic))) := Lib.hid ((HCi3.out.trans hc).setCell (.inr (by exact Nat.le_refl _)) _); have HBK := Lib.hid ((HBK.out.keep hc (by have := HG.out; simp; omega)).set_ne (b' := wi.heap.size) (by have := HG.out; omega) 3 none (.int .i64 ic)); clear hr hc hb9) | (go_at_call 25; (with_reducible refine (rnum1 b (.slice va zs.length vc) zs _ _ HRi2.out).mono ?_); rintro e wi3 ⟨ib, si3, rfl, HXi3, hr, hc⟩; have hb9 := HBi2.out.keep hc (by have := HG.out; simp; omega); have fi3 := hb9.free 2; have ei3 := hb9.cell (o := 2) rfl; have HRi3 := Lib.hid (hr.keep (L := [wi.heap.size]) ((Chg.refl _ wi3).setCell (p := ⟨wi.heap.size, 2, none⟩) (.inl (by simp)) (.int .i64 ib)) (by have := HG.out; simp; omega)); have HBi3 : Hid (Blk (wi3.setCell ⟨wi.heap.size, 2, none⟩ (.int .i64 ib)) wi.heap.size #[.int .i64 iop, .int .i64 ia, .int .i64 ib, .int .i64 0, .int .u32 0] 60) := Lib.hid (by have h9 := hb9.set 2 (.int .i64 ib); simp only [List.setIfInBounds_toArray, List.set_cons_zero, List.set_cons_succ] at h9; exact h9); have HCi3 : Hid (Chg [b] wi (wi3.setCell ⟨wi.heap.size, 2, none⟩ (.int .i64 ib))) := Lib.hid ((HCi2.out.trans hc).setCell (.inr (by exact Nat.le_refl _)) _); have HBK := Lib.hid ((HBK.out.keep hc (by have := HG.out; simp; omega)).set_ne (b' := wi.heap.size) (by have := HG.out; omega) 2 none (.int .i64 ib)); clear hr hc hb9) | (go_at_call 25; (with_reducible refine (rnum1 b (.slice va zs.length vc) zs _ _ HRi1.out).mono ?_); rintro e wi2 ⟨ia, si2, rfl, HXi2, hr, hc⟩; have hb9 := HBi1.out.keep hc (by have := HG.out; simp; omega); have fi2 := hb9.free 1; have ei2 := hb9.cell (o := 1) rfl; have HRi2 := Lib.hid (hr.keep (L := [wi.heap.size]) ((Chg.refl _ wi2).setCell (p := ⟨wi.heap.size, 1, none⟩) (.inl (by simp)) (.int .i64 ia)) (by have := HG.out; simp; omega)); have HBi2 : Hid (Blk (wi2.setCell ⟨wi.heap.size, 1, none⟩ (.int .i64 ia)) wi.heap.size #[.int .i64 iop, .int .i64 ia, .int .i64 0, .int .i64 0, .int .u32 0] 60) := Lib.hid (by have h9 := hb9.set 1 (.int .i64 ia); simp only [List.setIfInBounds_toArray, List.set_cons_zero, List.set_cons_succ] at h9; exact h9); have HCi2 : Hid (Chg [b] wi (wi2.setCell ⟨wi.heap.size, 1, none⟩ (.int .i64 ia))) := Lib.hid ((HCi1.out.trans hc).setCell (.inr (by exact Nat.le_refl _)) _); have HBK := Lib.hid ((HBK.out.keep hc (by have := HG.out; simp; omega)).set_ne (b' := wi.heap.size) (by have := HG.out; omega) 1 none (.int .i64 ia)); clear hr hc hb9) | (go_at_call 25; (with_reducible refine (rnum1 b (.slice va zs.length vc) zs _ _ HRi0.out).mono ?_); rintro e wi1 ⟨iop, si1, rfl, HXi1, hr, hc⟩; have hb9 := HBi0.out.keep hc (by have := HG.out; simp; omega); have fi1 := hb9.free 0; have ei1 := hb9.cell (o := 0) rfl; have HRi1 := Lib.hid (hr.keep (L := [wi.heap.size]) ((Chg.refl _ wi1).setCell (p := ⟨wi.heap.size, 0, none⟩) (.inl (by simp)) (.int .i64 iop)) (by have := HG.out; simp; omega)); have HBi1 : Hid (Blk (wi1.setCell ⟨wi.heap.size, 0, none⟩ (.int .i64 iop)) wi.heap.size #[.int .i64 iop, .int .i64 0, .int .i64 0, .int .i64 0, .int .u32 0] 60) := Lib.hid (by have h9 := hb9.set 0 (.int .i64 iop); simp only [List.setIfInBounds_toArray, List.set_cons_zero, List.set_cons_succ] at h9; exact h9); have HCi1 : Hid (Chg [b] wi (wi1.setCell ⟨wi.heap.size, 0, none⟩ (.int .i64 iop))) := Lib.hid ((HCi0.out.trans hc).setCell (.inr (by exact Nat.le_refl _)) _); have HBK := Lib.hid ((HBK.out.keep hc (by have := HG.out; simp; omega)).set_ne (b' := wi.heap.size) (by have := HG.out; omega) 0 none (.int .i64 iop)); clear hr hc hb9))
                  go_wp2_with (first | (at_builtin; have HOY : Hid (OwnC ((wi5.setCell ⟨wi.heap.size, 4, none⟩ (.int .u32 iN)).alloc (.cells #[.int .i64 iop, .int .i64 ia, .int .i64 ib, .int .i64 ic, .int .u32 iN] 60)) wt7.heap.size (.slice ca_ code.length cc_) code) := Lib.hid (mem.own_chg HOW2.out (HCi5.out.alloc _) (fun y hy => by have h8 := (World.ownsRow.lt HOW2.out y hy).1; have := HG.out; simp; omega)); obtain ⟨i0, hi, hz0, hz1, hz2⟩ := HI3.out; refine wpList_append_any (o := ⟨some 119, _, _, _, _, _⟩) _ rfl (.tmp 116) (.tmp 118) 39 rfl wt7.heap.size 60 i0 (.agg #[.int .i64 0, .int .i64 0, .int .i64 0, .int .i64 0, .int .u32 0]) 5 40 Try.underlying39 hi hz0 hz1 hz2 rfl (by decide) _ _ _ rfl HOY.out _ 1 (Ins.cells ⟨iop, ia, ib, ic, iN⟩) rfl (reads_ins_at (wi5.setCell ⟨wi.heap.size, 4, none⟩ (.int .u32 iN)) ⟨iop, ia, ib, ic, iN⟩ _ (by simp [World.setCell])) (by intro u hu; simp [Ins.cells] at hu; rcases hu with rfl | rfl | rfl | rfl | rfl <;> rfl) (by have := HLB.out; unfold maxLen; omega) (by have := HLB.out; omega) (by exact Nat.le_trans HGI.out (HCi5.out.alloc _).size) ?_; intro v5 wz ho5 hg5; have HO5 : Hid (OwnC wz wt7.heap.size v5 (code ++ [(⟨iop, ia, ib, ic, iN⟩ : Ins)])) := Lib.hid (OwnC.add ho5); have HCg : Hid (Chg ((Value.slice ca_ code.length cc_).ownBlock.toList) (wi5.setCell ⟨wi.heap.size, 4, none⟩ (.int .u32 iN)) wz) := Lib.hid (((Chg.refl _ _).alloc _).grown hg5 (fun y hy => .inl (Option.mem_toList.2 hy))); have HNT : Hid (∀ y ∈ (Value.slice ca_ code.length cc_).ownBlock.toList, wt7.heap.size ≤ y ∧ y < wi.heap.size) := Lib.hid (fun y hy => World.ownsRow.lt HOW2.out y (Option.mem_toList.1 hy)); have HBz := Lib.hid (HBK.out.keep HCg.out (by intro hh; have h8 := HNT.out _ hh; have := HG.out; omega)); have HRz := Lib.hid (HRi5.out.keep HCg.out (fun y hy => by have h8 := HNT.out _ hy; have := HG.out; omega)); have HCz : Hid (Chg [b, wo.heap.size] wt7 wz) := Lib.hid ((HJ2.out.into (L := [b]) HCi5.out (fun y hy => .inl (by simp at hy; simp [hy]))).into HCg.out (fun y hy => .inr (HNT.out y hy).1)); (obtain ⟨a5, c5, rfl⟩ := own_slice HO5.out (by decide)); have fz := HBz.out.free 6; have ez := HBz.out.cell (o := 6) rfl; clear ho5 hg5 hi hz0 hz1 hz2) | (refine wpList_load_blk rfl 60 (.tmp 12) rfl wi.heap.size rfl HBi5.out _ Try.underlying60 rfl szIns ?_))
                  have HB6 : Hid (Blk (wz.setCell ⟨wo.heap.size, 6, none⟩ (.slice a5 (code.length + 1) c5)) wo.heap.size #[.int .i64 kind, .int .i64 prio, .int .i64 period, .int .i64 offset, .int .i64 deadline, .int .i64 own, .slice a5 (code ++ [(⟨iop, ia, ib, ic, iN⟩ : Ins)]).length c5] 41) := Lib.hid (by have h9 := HBz.out.set 6 (.slice a5 (code.length + 1) c5); simp only [List.setIfInBounds_toArray, List.set_cons_zero, List.set_cons_succ] at h9; rw [show (code ++ [(⟨iop, ia, ib, ic, iN⟩ : Ins)]).length = code.length + 1 by simp]; exact h9)
                  have HC6 : Hid (Chg [wo.heap.size] wz (wz.setCell ⟨wo.heap.size, 6, none⟩ (.slice a5 (code.length + 1) c5))) := Lib.hid ((Chg.refl _ _).setCell (.inl (by simp)) _)
                  have HO6 : Hid (OwnC (wz.setCell ⟨wo.heap.size, 6, none⟩ (.slice a5 (code.length + 1) c5)) wt7.heap.size (.slice a5 (code ++ [(⟨iop, ia, ib, ic, iN⟩ : Ins)]).length c5) (code ++ [(⟨iop, ia, ib, ic, iN⟩ : Ins)])) := Lib.hid (mem.own_chg HO5.out HC6.out (fun y hy => by have h8 := (World.ownsRow.lt HO5.out y hy).1; have := HG.out; simp; omega))
                  have HR6 := Lib.hid (HRz.out.keep HC6.out (by have := HG.out; simp; omega))
                  have HC7 := Lib.hid (HCz.out.into HC6.out (fun y hy => .inl (by simp at hy; simp [hy])))
                  have HIV : Hid ((⟨iop, ia, ib, ic, iN⟩ : Ins) = insV zs sy ∧ si5 = insS zs sy) := Lib.hid (by
                    obtain ⟨⟨rfl, rfl⟩, -⟩ := HXi1.out
                    obtain ⟨⟨rfl, rfl⟩, -⟩ := HXi2.out
                    obtain ⟨⟨rfl, rfl⟩, -⟩ := HXi3.out
                    obtain ⟨⟨rfl, rfl⟩, -⟩ := HXi4.out
                    obtain ⟨⟨rfl, rfl⟩, -⟩ := HXi5.out
                    exact ⟨rfl, rfl⟩)
                  have hmm := HM.out
                  have hzz := HZ.out
                  go_roundw
                  case rel => exact ⟨m + 1, z - 1, si5, code ++ [(⟨iop, ia, ib, ic, iN⟩ : Ins)], a5, c5, by omega, by omega, by omega, Lib.hid (by omega), rfl, Lib.hid (by rw [HIV.out.2]; exact row_next HLX.out HBAD.out HIV.out.1 HXi5.out.2 HM.out), HB6, HO6, HR6, HC7⟩
                  case measure => simp [intOf]; omega
                · rw [hbad] at c2
                  have HLI := Lib.hid (show (rowV (insV zs) (insS zs) n7 st7 = code ∧ rowS (insS zs) n7 st7 = sy) ∧ code.length ≤ 255 ∧ ∀ x ∈ code, fit4 x.n from ⟨row_done ⟨HLX.out.1, HLX.out.2.2⟩ (.inr hbad), by have := HLX.out.1; have := HN7.out; omega, HLX.out.2.1⟩)
                  clear hbad hm
                  go_wp2_with fail
                  go_meet
                  case rel => exact ⟨sy, code, ca_, cc_, HLI, HBTi, HOW2, HRS, HJ2⟩
              · have hmn : n7 ≤ m := by have := HZ.out; omega
                have HLI := Lib.hid (show (rowV (insV zs) (insS zs) n7 st7 = code ∧ rowS (insS zs) n7 st7 = sy) ∧ code.length ≤ 255 ∧ ∀ x ∈ code, fit4 x.n from ⟨row_done ⟨HLX.out.1, HLX.out.2.2⟩ (.inl hmn), by have := HLX.out.1; have := HN7.out; omega, HLX.out.2.1⟩)
                clear hmn hm
                go_wp2_with fail
                go_meet
                case rel => exact ⟨sy, code, ca_, cc_, HLI, HBTi, HOW2, HRS, HJ2⟩
          case rest =>
          obtain ⟨sy, code, ca_, cc_, HLI, HBTc, HOC, HRC, HJC⟩ := hcut
          rename World => wc
          have HCC : Hid (Chg [b] wo wc) := Lib.hid (HCt7.out.into HJC.out (fun y hy => by simp at hy; rcases hy with rfl | rfl; exact .inl (by simp); exact .inr (Nat.le_refl _)))
          have HBSc := Lib.hid (HBT.out.keep HCC.out (by have := HG.out; simp; omega))
          have HLB : Hid (ds.length ≤ 1000) := Lib.hid (by have h9 := HLX.out.1; rw [List.length_map] at h9; have := HN2B.out; have := HLT.out; omega)
          have HBASE : Hid (wS.heap.size ≤ nb1) := Lib.hid (by rw [HN1.out]; exact Nat.le_refl _)
          have HG0 := HG
          have HG : Hid (b < w5.heap.size ∧ w5.heap.size < nb1 ∧ nb1 ≤ wo.heap.size ∧ wo.heap.size < wt7.heap.size ∧ wt7.heap.size ≤ wc.heap.size) := Lib.hid ⟨HG0.out.1, HG0.out.2.1, HG0.out.2.2, HBt7.out.lt, HJC.out.size⟩
          have HSN : Hid (SubT wc wt7.heap.size (⟨⟨kind, prio, period, offset, deadline, own, ca_, code.length, cc_⟩, code⟩ : DT)) := Lib.hid ⟨HOC.out, HLI.out.2.2, HLI.out.2.1, HXt6.out.2⟩
          have HV : Hid (tkV zs sx = DT.p (⟨⟨kind, prio, period, offset, deadline, own, ca_, code.length, cc_⟩, code⟩ : DT) ∧ tkS zs sx = sy) := Lib.hid (by
            obtain ⟨⟨rfl, rfl⟩, -⟩ := HXt1.out
            obtain ⟨⟨rfl, rfl⟩, -⟩ := HXt2.out
            obtain ⟨⟨rfl, rfl⟩, -⟩ := HXt3.out
            obtain ⟨⟨rfl, rfl⟩, -⟩ := HXt4.out
            obtain ⟨⟨rfl, rfl⟩, -⟩ := HXt5.out
            obtain ⟨⟨rfl, rfl⟩, -⟩ := HXt6.out
            obtain ⟨⟨e7, rfl⟩, -⟩ := HXt7.out
            have h8 := HLI.out.1
            constructor
            · unfold tkV hd7
              rw [← e7, Int.toNat_natCast, h8.1]
              rfl
            · unfold tkS hd7
              rw [← e7, Int.toNat_natCast, h8.2])
          have eS := HBSc.out.cell (o := 0) rfl
          go_wp2_with (first | (at_builtin; have HOY : Hid (OwnTs (wc.alloc (.cells #[.int .i64 kind, .int .i64 prio, .int .i64 period, .int .i64 offset, .int .i64 deadline, .int .i64 own, .slice ca_ code.length cc_] 41)) nb1 (.slice ra_ ds.length rc_) ds) := Lib.hid (mem.own_chg HOW.out (HCC.out.alloc _) (fun y hy => by have h8 := (World.ownsRow.lt HOW.out y hy).1; have := HG.out; simp; omega)); obtain ⟨i0, hi, hz0, hz1, hz2⟩ := HI1.out; refine wpList_append_row (o := ⟨some 125, _, _, _, _, _⟩) rfl (.tmp 122) (.tmp 124) 24 rfl nb1 41 i0 (.agg #[.int .i64 0, .int .i64 0, .int .i64 0, .int .i64 0, .int .i64 0, .int .i64 0, .slice none 0 0]) 7 72 Try.underlying24 hi hz0 hz1 hz2 rfl (by decide) _ _ _ rfl HOY.out wc.heap.size (#[.int .i64 kind, .int .i64 prio, .int .i64 period, .int .i64 offset, .int .i64 deadline, .int .i64 own, .slice ca_ code.length cc_]).toList rfl rfl (fun j u hu => (Blk.new wc #[.int .i64 kind, .int .i64 prio, .int .i64 period, .int .i64 offset, .int .i64 deadline, .int .i64 own, .slice ca_ code.length cc_] 41).cell (by rw [← Array.getElem?_toList]; exact hu)) (by intro u hu; simp at hu; rcases hu with rfl | rfl | rfl | rfl | rfl | rfl | rfl <;> rfl) (by have := HLB.out; unfold maxLen; omega) (by have := HLB.out; omega) (by have := HG.out; have := HCC.out.size; simp; omega) ?_; intro v5 wz ho5 hg5 hb5; have HO5 : Hid (OwnTs wz nb1 v5 (ds ++ [(⟨⟨kind, prio, period, offset, deadline, own, ca_, code.length, cc_⟩, code⟩ : DT)])) := Lib.hid (OwnTs.add ho5); have HNT : Hid (∀ y, (Value.slice ra_ ds.length rc_).ownBlock = some y → nb1 ≤ y ∧ y < wo.heap.size) := Lib.hid (fun y hy => World.ownsRow.lt HOW.out y hy); have HCg : Hid (Chg ((Value.slice ra_ ds.length rc_).ownBlock.toList) wc wz) := Lib.hid (((Chg.refl _ wc).alloc _).grown hg5 (fun y hy => .inl (Option.mem_toList.2 hy))); have HBz := Lib.hid (HBSc.out.keep HCg.out (by intro hh; have h8 := HNT.out _ (Option.mem_toList.1 hh); have := HG.out; omega)); have HRz := Lib.hid (HRC.out.keep HCg.out (fun y hy => by have h8 := HNT.out _ (Option.mem_toList.1 hy); have := HG.out; omega)); have HCz : Hid (Chg [b, w5.heap.size] wS wz) := Lib.hid ((HJ.out.into HCC.out (fun y hy => .inl (by simp at hy; simp [hy]))).into HCg.out (fun y hy => .inr (by have h8 := HNT.out _ (Option.mem_toList.1 hy); have := HG.out; have h7 := HBASE.out; omega))); have HB5 := Lib.hid hb5; (obtain ⟨a5, c5, rfl⟩ := own_slice HO5.out (by decide)); have fz := HBz.out.free 0; have ez := HBz.out.cell (o := 0) rfl; clear ho5 hg5 hb5 hi hz0 hz1 hz2) | (refine wpList_load_blk rfl 41 (.tmp 10) rfl wo.heap.size rfl HBTc.out _ Try.underlying41 rfl szTask ?_))
          have HB6 : Hid (Blk (wz.setCell ⟨w5.heap.size, 0, none⟩ (.slice a5 (ds.length + 1) c5)) w5.heap.size #[(.slice a5 (ds ++ [(⟨⟨kind, prio, period, offset, deadline, own, ca_, code.length, cc_⟩, code⟩ : DT)]).length c5), .slice none 0 0] 27) := Lib.hid (by have h9 := HBz.out.set 0 (.slice a5 (ds.length + 1) c5); simp only [List.setIfInBounds_toArray, List.set_cons_zero, List.set_cons_succ] at h9; rw [show (ds ++ [(⟨⟨kind, prio, period, offset, deadline, own, ca_, code.length, cc_⟩, code⟩ : DT)]).length = ds.length + 1 by simp]; exact h9)
          have HC6 : Hid (Chg [w5.heap.size] wz (wz.setCell ⟨w5.heap.size, 0, none⟩ (.slice a5 (ds.length + 1) c5))) := Lib.hid ((Chg.refl _ _).setCell (.inl (by simp)) _)
          have HO6 : Hid (OwnTs (wz.setCell ⟨w5.heap.size, 0, none⟩ (.slice a5 (ds.length + 1) c5)) nb1 (.slice a5 (ds ++ [(⟨⟨kind, prio, period, offset, deadline, own, ca_, code.length, cc_⟩, code⟩ : DT)]).length c5) (ds ++ [(⟨⟨kind, prio, period, offset, deadline, own, ca_, code.length, cc_⟩, code⟩ : DT)])) := Lib.hid (mem.own_chg HO5.out HC6.out (fun y hy => by have h8 := (World.ownsRow.lt HO5.out y hy).1; have := HG.out; simp; omega))
          have HR6 := Lib.hid (HRz.out.keep HC6.out (by have := HG.out; simp; omega))
          have HC7 := Lib.hid (HCz.out.into HC6.out (fun y hy => .inl (by simp at hy; simp [hy])))
          have HS6 : Hid (∀ d ∈ ds ++ [(⟨⟨kind, prio, period, offset, deadline, own, ca_, code.length, cc_⟩, code⟩ : DT)], SubT (wz.setCell ⟨w5.heap.size, 0, none⟩ (.slice a5 (ds.length + 1) c5)) nb1 d ∧ ∀ y ∈ NbT d, (Value.slice a5 (ds ++ [(⟨⟨kind, prio, period, offset, deadline, own, ca_, code.length, cc_⟩, code⟩ : DT)]).length c5).ownBlock ≠ some y) := Lib.hid (by
            intro d hd
            have hsz := HCC.out.size
            have hG := HG.out
            rcases List.mem_append.1 hd with hd | hd
            · obtain ⟨h1, h2⟩ := HSB.out d hd
              have h3 := fun y hy => h1.lt y hy
              refine ⟨((h1.keep HCC.out (fun y hy hh => ?_)).keep HCg.out (fun y hy hh => ?_)).keep HC6.out (fun y hy hh => ?_), fun y hy hh => ?_⟩
              · have := h3 y hy; simp at hh; omega
              · exact h2 y hy (Option.mem_toList.1 hh)
              · have := h3 y hy; simp at hh; omega
              · have := h3 y hy
                rcases HB5.out y hh with h6 | h6
                · exact h2 y hy h6
                · simp at h6; omega
            · simp only [List.mem_singleton] at hd
              subst hd
              have h1 := HSN.out
              have h3 := fun y hy => h1.lt y hy
              refine ⟨((h1.keep HCg.out (fun y hy hh => ?_)).keep HC6.out (fun y hy hh => ?_)).mono (by omega), fun y hy hh => ?_⟩
              · have h4 := h3 y hy
                have h5 := HNT.out _ (Option.mem_toList.1 hh)
                omega
              · have := h3 y hy; simp at hh; omega
              · have h4 := h3 y hy
                rcases HB5.out y hh with h6 | h6
                · have h5 := HNT.out _ h6; omega
                · simp at h6; omega)
          have hltj := HLT.out
          go_roundw
          case rel => exact ⟨m + 1, sy, ds ++ [(⟨⟨kind, prio, period, offset, deadline, own, ca_, code.length, cc_⟩, code⟩ : DT)], a5, c5, by omega, by go_num, Lib.hid (by rw [List.map_append, ← HV.out.2]; exact row_step HLX.out HBAD.out HV.out.1 HLT.out), HB6, HO6, HS6, HR6, HC7⟩
          case measure => simp [intOf]; omega
        · rw [hbad] at c2
          have HLR := Lib.hid (show (rowV (tkV zs) (tkS zs) n1 s5 = ds.map DT.p ∧ rowS (tkS zs) n1 s5 = sx) ∧ ds.length ≤ n1 from ⟨row_done HLX.out (.inr hbad), by have h9 := HLX.out.1; rw [List.length_map] at h9; omega⟩)
          clear hbad hm
          go_wp2_with fail
          go_meet
          case rel => exact ⟨sx, ds, ra_, rc_, HLR, HBT, HOW, Lib.hid (fun d hd => (HSB.out d hd).1), HRS, HJ⟩
      · have HLR := Lib.hid (show (rowV (tkV zs) (tkS zs) n1 s5 = ds.map DT.p ∧ rowS (tkS zs) n1 s5 = sx) ∧ ds.length ≤ n1 from ⟨row_done HLX.out (.inl (by omega)), by have h9 := HLX.out.1; rw [List.length_map] at h9; omega⟩)
        have hmn : ¬ (m : Int) < (n1 : Int) := by omega
        clear hlt hm
        go_wp2_with fail
        go_meet
        case rel => exact ⟨sx, ds, ra_, rc_, HLR, HBT, HOW, Lib.hid (fun d hd => (HSB.out d hd).1), HRS, HJ⟩
  case rest =>
  obtain ⟨stt, ts, ua, uc, HTS, HBS1, HOT, HST, HRS1, HJT⟩ := hcut
  rename World => wt
  have HSS : Hid (b < w5.heap.size ∧ w5.heap.size < wt.heap.size) := Lib.hid ⟨HBSB.out.1, HBS1.out.lt⟩
  obtain ⟨nb2, hnb2⟩ : ∃ q, q = wt.heap.size := ⟨_, rfl⟩
  have HN2 := Lib.hid hnb2
  have HBSB2 : Hid (b < w5.heap.size ∧ w5.heap.size < nb2) := Lib.hid (by rw [hnb2]; exact HSS.out)
  clear hnb2
  go_upto_block 4 with fail
  go_cut [13, 14, 15, 16] from 127 to 205 (fun _ _ _ _ wc => ∃ (sx : St) (ds : List DO) (ra_ : Option Addr) (rc_ : Nat), Hid (rowV (obV zs) (obS zs) n2 stt = ds.map DO.p ∧ rowS (obS zs) n2 stt = sx) ∧ Hid (Blk wc w5.heap.size #[.slice ua ts.length uc, .slice ra_ ds.length rc_] 27) ∧ Hid (OwnOs wc nb2 (.slice ra_ ds.length rc_) ds) ∧ Hid (∀ d ∈ ds, SubO wc nb2 d) ∧ Hid (RQ wc b (.slice va zs.length vc) zs sx) ∧ Hid (Chg [b, w5.heap.size] wt wc))
  case first =>
    go_wp2_with fail
    go_loopw [13] (fun i wr => ∃ (m : Nat) (sx : St) (ds : List DO) (ra_ : Option Addr) (rc_ : Nat), m ≤ n2 ∧ i = .int .i64 m ∧ Hid ((ds.map DO.p).length = m ∧ rowV (obV zs) (obS zs) n2 stt = ds.map DO.p ++ rowV (obV zs) (obS zs) (n2 - m) sx ∧ rowS (obS zs) n2 stt = rowS (obS zs) (n2 - m) sx) ∧ Hid (Blk wr w5.heap.size #[.slice ua ts.length uc, .slice ra_ ds.length rc_] 27) ∧ Hid (OwnOs wr nb2 (.slice ra_ ds.length rc_) ds) ∧ Hid (∀ d ∈ ds, SubO wr nb2 d ∧ ∀ y ∈ NbO d, (Value.slice ra_ ds.length rc_).ownBlock ≠ some y) ∧ Hid (RQ wr b (.slice va zs.length vc) zs sx) ∧ Hid (Chg [b, w5.heap.size] wt wr)) (fun i _ => n2 - (intOf i).toNat)
    case atStart => exact ⟨0, stt, [], none, 0, Nat.zero_le _, rfl, Lib.hid ⟨rfl, by simp, by simp⟩, HBS1, Lib.hid (World.ownsRow_nil _ _ _ _), Lib.hid (by simp), HRS1, Lib.hid (Chg.refl _ _)⟩
    case round =>
      obtain ⟨m, sx, ds, ra_, rc_, hm, rfl, HLX, HBT, HOW, HSB, HRS, HJ⟩ := hrel
      obtain ⟨wo, rfl⟩ : ∃ wo : World, wo = wr := ⟨_, rfl⟩
      have c2 := HRS.out.box.cell (o := 2) rfl
      by_cases hlt : m < n2
      · have hmn : (m : Int) < (n2 : Int) := by omega
        cases hbad : sx.bad
        · rw [hbad] at c2
          have HBAD := Lib.hid hbad
          have HLT := Lib.hid hlt
          have hm1000 : (m : Int) < 1000 := by have := HN2B.out; omega
          have k8 : IntKind.i64.wrap ((m : Int) + 1) = (m : Int) + 1 := by rw [IntKind.wrap_i64]; omega
          have HG : Hid (b < w5.heap.size ∧ w5.heap.size < nb2 ∧ nb2 ≤ wo.heap.size) := Lib.hid ⟨HBSB2.out.1, HBSB2.out.2, by rw [HN2.out]; exact HJ.out.size⟩
          clear hbad hlt hm
          go_upto_region 35 with (refine wpList_store_blk rfl 53 (.tmp 14) (.tmp 139) rfl wo.heap.size #[.int .i64 0, .int .i64 0, .int .i64 0, .int .i64 0, .int .u32 0, .slice none 0 0, .int .i64 0, .slice none 0 0] rfl rfl (Blk.new wo #[.int .i64 0, .int .i64 0, .int .i64 0, .int .i64 0, .int .u32 0, .slice none 0 0, .int .i64 0, .slice none 0 0] 53) szObject rfl (by simp [Value.oneCell']) ?_; intro wgp hb9 hc9; have HBp0 := Lib.hid hb9; have HCpq : Hid (Chg [] wo wgp) := Lib.hid (((Chg.refl [] wo).alloc _).into hc9 (fun y hy => .inr (by simp at hy; omega))); have HCp0 : Hid (Chg [b] wo wgp) := Lib.hid (HCpq.out.mono (by simp)); have HRp0 := Lib.hid (HRS.out.keep HCpq.out (by simp)); clear hb9 hc9)
          go_upto_block 6 with (first | (go_at_call 25; (with_reducible refine (rnum1 b (.slice va zs.length vc) zs _ _ HRp6.out).mono ?_); rintro e wp7 ⟨x7, sp7, rfl, HXp7, hr, hc⟩; have HRp7 := Lib.hid hr; have HCp7 : Hid (Chg [b] wo wp7) := Lib.hid (HCp6.out.trans hc); (obtain ⟨n7, rfl⟩ : ∃ n : Nat, x7 = (n : Int) := ⟨x7.toNat, (by have := HXp7.out; omega)⟩); have HBp7 := Lib.hid (HBp6.out.keep hc (by have := HG.out; simp; omega)); clear hr hc) | (go_at_call 25; (with_reducible refine (rnum1 b (.slice va zs.length vc) zs _ _ HRp5.out).mono ?_); rintro e wp6 ⟨owr, sp6, rfl, HXp6, hr, hc⟩; have hb9 := HBp5.out.keep hc (by have := HG.out; simp; omega); have fp6 := hb9.free 6; have ep6 := hb9.cell (o := 6) rfl; have HRp6 := Lib.hid (hr.keep (L := [wo.heap.size]) ((Chg.refl _ wp6).setCell (p := ⟨wo.heap.size, 6, none⟩) (.inl (by simp)) (.int .i64 owr)) (by have := HG.out; simp; omega)); have HBp6 : Hid (Blk (wp6.setCell ⟨wo.heap.size, 6, none⟩ (.int .i64 owr)) wo.heap.size #[.int .i64 ok, .int .i64 ow, .int .i64 oz, .int .i64 oc, .int .u32 ost, .slice none 0 0, .int .i64 owr, .slice none 0 0] 53) := Lib.hid (by have h9 := hb9.set 6 (.int .i64 owr); simp only [List.setIfInBounds_toArray, List.set_cons_zero, List.set_cons_succ] at h9; exact h9); have HCp6 : Hid (Chg [b] wo (wp6.setCell ⟨wo.heap.size, 6, none⟩ (.int .i64 owr))) := Lib.hid ((HCp5.out.trans hc).setCell (.inr (by exact Nat.le_refl _)) _); clear hr hc hb9) | (go_at_call 25; (with_reducible refine (rnum4 b (.slice va zs.length vc) zs _ _ HRp4.out).mono ?_); rintro e wp5 ⟨ost, sp5, rfl, HXp5, hr, hc⟩; have hb9 := HBp4.out.keep hc (by have := HG.out; simp; omega); have fp5 := hb9.free 4; have ep5 := hb9.cell (o := 4) rfl; have HRp5 := Lib.hid (hr.keep (L := [wo.heap.size]) ((Chg.refl _ wp5).setCell (p := ⟨wo.heap.size, 4, none⟩) (.inl (by simp)) (.int .u32 ost)) (by have := HG.out; simp; omega)); have HBp5 : Hid (Blk (wp5.setCell ⟨wo.heap.size, 4, none⟩ (.int .u32 ost)) wo.heap.size #[.int .i64 ok, .int .i64 ow, .int .i64 oz, .int .i64 oc, .int .u32 ost, .slice none 0 0, .int .i64 0, .slice none 0 0] 53) := Lib.hid (by have h9 := hb9.set 4 (.int .u32 ost); simp only [List.setIfInBounds_toArray, List.set_cons_zero, List.set_cons_succ] at h9; exact h9); have HCp5 : Hid (Chg [b] wo (wp5.setCell ⟨wo.heap.size, 4, none⟩ (.int .u32 ost))) := Lib.hid ((HCp4.out.trans hc).setCell (.inr (by exact Nat.le_refl _)) _); have kwp5 : IntKind.u32.wrap ost = ost := (by have := HXp5.out; rw [IntKind.wrap_u32]; omega); clear hr hc hb9) | (go_at_call 25; (with_reducible refine (rnum1 b (.slice va zs.length vc) zs _ _ HRp3.out).mono ?_); rintro e wp4 ⟨oc, sp4, rfl, HXp4, hr, hc⟩; have hb9 := HBp3.out.keep hc (by have := HG.out; simp; omega); have fp4 := hb9.free 3; have ep4 := hb9.cell (o := 3) rfl; have HRp4 := Lib.hid (hr.keep (L := [wo.heap.size]) ((Chg.refl _ wp4).setCell (p := ⟨wo.heap.size, 3, none⟩) (.inl (by simp)) (.int .i64 oc)) (by have := HG.out; simp; omega)); have HBp4 : Hid (Blk (wp4.setCell ⟨wo.heap.size, 3, none⟩ (.int .i64 oc)) wo.heap.size #[.int .i64 ok, .int .i64 ow, .int .i64 oz, .int .i64 oc, .int .u32 0, .slice none 0 0, .int .i64 0, .slice none 0 0] 53) := Lib.hid (by have h9 := hb9.set 3 (.int .i64 oc); simp only [List.setIfInBounds_toArray, List.set_cons_zero, List.set_cons_succ] at h9; exact h9); have HCp4 : Hid (Chg [b] wo (wp4.setCell ⟨wo.heap.size, 3, none⟩ (.int .i64 oc))) := Lib.hid ((HCp3.out.trans hc).setCell (.inr (by exact Nat.le_refl _)) _); clear hr hc hb9) | (go_at_call 25; (with_reducible refine (rnum1 b (.slice va zs.length vc) zs _ _ HRp2.out).mono ?_); rintro e wp3 ⟨oz, sp3, rfl, HXp3, hr, hc⟩; have hb9 := HBp2.out.keep hc (by have := HG.out; simp; omega); have fp3 := hb9.free 2; have ep3 := hb9.cell (o := 2) rfl; have HRp3 := Lib.hid (hr.keep (L := [wo.heap.size]) ((Chg.refl _ wp3).setCell (p := ⟨wo.heap.size, 2, none⟩) (.inl (by simp)) (.int .i64 oz)) (by have := HG.out; simp; omega)); have HBp3 : Hid (Blk (wp3.setCell ⟨wo.heap.size, 2, none⟩ (.int .i64 oz)) wo.heap.size #[.int .i64 ok, .int .i64 ow, .int .i64 oz, .int .i64 0, .int .u32 0, .slice none 0 0, .int .i64 0, .slice none 0 0] 53) := Lib.hid (by have h9 := hb9.set 2 (.int .i64 oz); simp only [List.setIfInBounds_toArray, List.set_cons_zero, List.set_cons_succ] at h9; exact h9); have HCp3 : Hid (Chg [b] wo (wp3.setCell ⟨wo.heap.size, 2, none⟩ (.int .i64 oz))) := Lib.hid ((HCp2.out.trans hc).setCell (.inr (by exact Nat.le_refl _)) _); clear hr hc hb9) | (go_at_call 25; (with_reducible refine (rnum1 b (.slice va zs.length vc) zs _ _ HRp1.out).mono ?_); rintro e wp2 ⟨ow, sp2, rfl, HXp2, hr, hc⟩; have hb9 := HBp1.out.keep hc (by have := HG.out; simp; omega); have fp2 := hb9.free 1; have ep2 := hb9.cell (o := 1) rfl; have HRp2 := Lib.hid (hr.keep (L := [wo.heap.size]) ((Chg.refl _ wp2).setCell (p := ⟨wo.heap.size, 1, none⟩) (.inl (by simp)) (.int .i64 ow)) (by have := HG.out; simp; omega)); have HBp2 : Hid (Blk (wp2.setCell ⟨wo.heap.size, 1, none⟩ (.int .i64 ow)) wo.heap.size #[.int .i64 ok, .int .i64 ow, .int .i64 0, .int .i64 0, .int .u32 0, .slice none 0 0, .int .i64 0, .slice none 0 0] 53) := Lib.hid (by have h9 := hb9.set 1 (.int .i64 ow); simp only [List.setIfInBounds_toArray, List.set_cons_zero, List.set_cons_succ] at h9; exact h9); have HCp2 : Hid (Chg [b] wo (wp2.setCell ⟨wo.heap.size, 1, none⟩ (.int .i64 ow))) := Lib.hid ((HCp1.out.trans hc).setCell (.inr (by exact Nat.le_refl _)) _); clear hr hc hb9) | (go_at_call 25; (with_reducible refine (rnum1 b (.slice va zs.length vc) zs _ _ HRp0.out).mono ?_); rintro e wp1 ⟨ok, sp1, rfl, HXp1, hr, hc⟩; have hb9 := HBp0.out.keep hc (by have := HG.out; simp; omega); have fp1 := hb9.free 0; have ep1 := hb9.cell (o := 0) rfl; have HRp1 := Lib.hid (hr.keep (L := [wo.heap.size]) ((Chg.refl _ wp1).setCell (p := ⟨wo.heap.size, 0, none⟩) (.inl (by simp)) (.int .i64 ok)) (by have := HG.out; simp; omega)); have HBp1 : Hid (Blk (wp1.setCell ⟨wo.heap.size, 0, none⟩ (.int .i64 ok)) wo.heap.size #[.int .i64 ok, .int .i64 0, .int .i64 0, .int .i64 0, .int .u32 0, .slice none 0 0, .int .i64 0, .slice none 0 0] 53) := Lib.hid (by have h9 := hb9.set 0 (.int .i64 ok); simp only [List.setIfInBounds_toArray, List.set_cons_zero, List.set_cons_succ] at h9; exact h9); have HCp1 : Hid (Chg [b] wo (wp1.setCell ⟨wo.heap.size, 0, none⟩ (.int .i64 ok))) := Lib.hid ((HCp0.out.trans hc).setCell (.inr (by exact Nat.le_refl _)) _); clear hr hc hb9))
          have HN7 : Hid (n7 ≤ 255) := Lib.hid (by have := HXp7.out; omega)
          clear c2 kwp5
          go_cut [15] from 161 to 178 (fun _ wc => ∃ (sy : St) (rows : List Int) (ca_ : Option Addr) (cc_ : Nat), Hid ((rowV (rdV zs 1) (rdS zs 1) n7 sp7 = rows ∧ rowS (rdS zs 1) n7 sp7 = sy) ∧ rows.length ≤ 255 ∧ ∀ x ∈ rows, 0 ≤ x ∧ x < 256 ^ 1) ∧ Hid (Blk wc wo.heap.size #[.int .i64 ok, .int .i64 ow, .int .i64 oz, .int .i64 oc, .int .u32 ost, .slice none 0 0, .int .i64 owr, .slice ca_ rows.length cc_] 53) ∧ Hid (OwnN wc wp7.heap.size (.slice ca_ rows.length cc_) rows) ∧ Hid (RQ wc b (.slice va zs.length vc) zs sy) ∧ Hid (Chg [b, wo.heap.size] wp7 wc))
          case first =>
            have HG1 := HG
            have HG : Hid (b < w5.heap.size ∧ w5.heap.size < nb2 ∧ nb2 ≤ wo.heap.size ∧ True) := Lib.hid ⟨HG1.out.1, HG1.out.2.1, HG1.out.2.2, trivial⟩
            go_wp2_with fail
            go_loopw [15] (fun i wr => ∃ (m : Nat) (z : Int) (sy : St) (rows : List Int) (ca_ : Option Addr) (cc_ : Nat), m ≤ n7 ∧ 0 ≤ z ∧ z ≤ 255 ∧ Hid (z = (n7 : Int) - (m : Int)) ∧ i = .int .i64 z ∧ Hid (rows.length = m ∧ (∀ x ∈ rows, 0 ≤ x ∧ x < 256 ^ 1) ∧ rowV (rdV zs 1) (rdS zs 1) n7 sp7 = rows ++ rowV (rdV zs 1) (rdS zs 1) (n7 - m) sy ∧ rowS (rdS zs 1) n7 sp7 = rowS (rdS zs 1) (n7 - m) sy) ∧ Hid (Blk wr wo.heap.size #[.int .i64 ok, .int .i64 ow, .int .i64 oz, .int .i64 oc, .int .u32 ost, .slice none 0 0, .int .i64 owr, .slice ca_ rows.length cc_] 53) ∧ Hid (OwnN wr wp7.heap.size (.slice ca_ rows.length cc_) rows) ∧ Hid (RQ wr b (.slice va zs.length vc) zs sy) ∧ Hid (Chg [b, wo.heap.size] wp7 wr)) (fun i _ => (intOf i).toNat)
            case atStart => exact ⟨0, (n7 : Int), sp7, [], none, 0, Nat.zero_le _, by omega, by have := HN7.out; omega, Lib.hid (by simp), rfl, Lib.hid ⟨rfl, by simp, by simp, by simp⟩, HBp7, Lib.hid (World.ownsRow_nil _ _ _ _), HRp7, Lib.hid (Chg.refl _ _)⟩
            case round =>
              obtain ⟨m, z, sy, rows, ca_, cc_, hm, hz0, hz1, HZ, rfl, HLX2, HBTi, HOW2, HRS, HJ2⟩ := hrel
              obtain ⟨wi, rfl⟩ : ∃ wi : World, wi = wr := ⟨_, rfl⟩
              have c2 := HRS.out.box.cell (o := 2) rfl
              by_cases h0 : 0 < z
              · cases hbad : sy.bad
                · have HBAD := Lib.hid hbad
                  have HM : Hid (m < n7) := Lib.hid (by have := HZ.out; omega)
                  have HLB : Hid (rows.length ≤ 1000) := Lib.hid (by have := HLX2.out.1; have := HM.out; have := HN7.out; omega)
                  have HGI : Hid (wp7.heap.size ≤ wi.heap.size) := Lib.hid HJ2.out.size
                  have HG0 := HG
                  have HG : Hid (b < w5.heap.size ∧ w5.heap.size < nb2 ∧ nb2 ≤ wo.heap.size ∧ wo.heap.size < wp7.heap.size ∧ wp7.heap.size ≤ wi.heap.size) := Lib.hid ⟨HG0.out.1, HG0.out.2.1, HG0.out.2.2.1, HBp7.out.lt, HGI.out⟩
                  have k1 : IntKind.i64.wrap (z - 1) = z - 1 := by rw [IntKind.wrap_i64]; omega
                  have HNT : Hid (∀ y, (Value.slice ca_ rows.length cc_).ownBlock = some y → wp7.heap.size ≤ y ∧ y < wi.heap.size) := Lib.hid (fun y hy => World.ownsRow.lt HOW2.out y hy)
                  have HTL : Hid (wo.heap.size ∉ (b :: (Value.slice ca_ rows.length cc_).ownBlock.toList)) := Lib.hid (by intro hh; simp only [List.mem_cons, Option.mem_toList] at hh; have h1 := HG.out; rcases hh with hh | hh; omega; have h2 := HNT.out _ hh; omega)
                  rw [hbad] at c2
                  have eF := HBTi.out.cell (o := 7) rfl
                  have KEEP := Lib.hid (fun (V : World) (h : Chg (b :: (Value.slice ca_ rows.length cc_).ownBlock.toList) wi V) => (⟨h.keep eF HTL.out, Lib.hid h⟩ : (fun V : World => V.cell? ⟨wo.heap.size, 7, none⟩ = some (.slice ca_ rows.length cc_) ∧ Hid (Chg (b :: (Value.slice ca_ rows.length cc_).ownBlock.toList) wi V)) V))
                  clear eF hbad hm
                  go_upto_region 44 with fail
                  have HD : Hid (Chg [b] wi wi.drew) := Lib.hid (Chg.refl _ _).drew
                  have hHeld : (fun V : World => V.cell? ⟨wo.heap.size, 7, none⟩ = some (.slice ca_ rows.length cc_) ∧ Hid (Chg (b :: (Value.slice ca_ rows.length cc_).ownBlock.toList) wi V)) wi.drew := KEEP.out _ (HD.out.mono (by simp))
                  refine wp_region_planT (fun V : World => V.cell? ⟨wo.heap.size, 7, none⟩ = some (.slice ca_ rows.length cc_) ∧ Hid (Chg (b :: (Value.slice ca_ rows.length cc_).ownBlock.toList) wi V)) 7 [(0, true, some 172), (1, true, some 173), (2, true, some 174), (3, false, some 175), (4, false, some 176), (5, false, some 177), (6, true, some 178)] (by kernel_rfl) (by kernel_rfl) (by kernel_rfl) (by kernel_rfl) (by kernel_rfl) (fun d c a v w h => by cases d <;> exact h) hHeld ?_
                  clear hHeld
                  (repeat (refine planT_read (v := ?_) rfl rfl ?_ ?_ ?_; rotate_left; (focus rfl); (focus (intro u hSw; (try dsimp only at hSw); go_simp; (try with_reducible rfl); done)); ((try dsimp only); (try simp only [Act.put, List.setIfInBounds_toArray, List.set_cons_zero, List.set_cons_succ]))))
                  refine planT_do rfl rfl ?_ (fun K hK => ?_)
                  · rfl
                  go_simp
                  go_wp2_with (go_at_call 25; refine (rnum1 b (.slice va zs.length vc) zs sy wi.drew (HRS.out.keep (L := []) (Chg.refl _ _).drew (by simp))).mono ?_; rintro e wa ⟨x, sn, rfl, HX, hr, hc⟩; have HRY := Lib.hid hr; have HCY : Hid (Chg [b] wi wa) := Lib.hid (HD.out.trans hc); clear hr hc)
                  refine hK.out _ _ (KEEP.out _ (HCY.out.mono (by simp))) (fun _ => ?_)
                  clear hK K
                  ((try dsimp only); (try simp only [Act.put, List.setIfInBounds_toArray, List.set_cons_zero, List.set_cons_succ]))
                  skip
                  refine planT_do rfl rfl ?_ (fun K hK => ?_)
                  · rfl
                  go_simp
                  refine hK.out _ _ (KEEP.out _ ((HCY.out.alloc _).mono (by simp))) (fun _ => ?_)
                  clear hK K
                  ((try dsimp only); (try simp only [Act.put, List.setIfInBounds_toArray, List.set_cons_zero, List.set_cons_succ]))
                  refine planT_do rfl rfl ?_ (fun K hK => ?_)
                  · rfl
                  have HOY : Hid (OwnN (wa.alloc (.cells #[.int .i64 x] 3)) wp7.heap.size (.slice ca_ rows.length cc_) rows) := Lib.hid (mem.own_chg HOW2.out (HCY.out.alloc _) (fun y hy => by have := HNT.out y hy; have := HG.out; simp; omega))
                  obtain ⟨i0, hi, hz0', hz1', hz2'⟩ := HI4.out
                  refine wp_append_any (o := ⟨some 177, _, _, _, _, _⟩) _ (.tmp 173) (.tmp 176) 51 rfl wp7.heap.size 3 i0 (.int .i64 0) 1 8 Try.underlying51 hi hz0' hz1' hz2' rfl (by decide) _ _ _ rfl HOY.out _ 1 [.int .i64 x] rfl (reads_one wa _ _) (by intro u hu; simp at hu; subst hu; rfl) (by have := HLB.out; unfold maxLen; omega) (by have := HLB.out; omega) (by exact Nat.le_trans HGI.out (HCY.out.alloc _).size) ?_
                  intro v5 w5z ho5 hg5
                  have HO5 : Hid (OwnN w5z wp7.heap.size v5 (rows ++ [x])) := Lib.hid (OwnN.add ho5)
                  have HCT : Hid (Chg (b :: (Value.slice ca_ rows.length cc_).ownBlock.toList) wi w5z) := Lib.hid (((HCY.out.mono (L' := (b :: (Value.slice ca_ rows.length cc_).ownBlock.toList)) (by simp)).alloc _).grown hg5 (fun y hy => .inl (List.mem_cons_of_mem _ (Option.mem_toList.2 hy))))
                  have HC5 : Hid (Chg [b, wo.heap.size] wp7 w5z) := Lib.hid (HJ2.out.into HCT.out (fun y hy => by
                    simp only [List.mem_cons, Option.mem_toList] at hy
                    rcases hy with hy | hy
                    · exact .inl (by simp [hy])
                    · exact .inr (HNT.out y hy).1))
                  have HCg : Hid (Chg ((Value.slice ca_ rows.length cc_).ownBlock.toList) wa w5z) := Lib.hid (((Chg.refl _ wa).alloc _).grown hg5 (fun y hy => .inl (Option.mem_toList.2 hy)))
                  have HB5 := Lib.hid (HBTi.out.keep HCT.out HTL.out)
                  have HR5 := Lib.hid (HRY.out.keep HCg.out (fun y hy => by have h8 := HNT.out _ (Option.mem_toList.1 hy); have := HG.out; omega))
                  obtain ⟨a5, c5, rfl⟩ := own_slice HO5.out (by decide)
                  clear ho5 hg5 hi hz0' hz1' hz2'
                  refine hK.out _ _ (KEEP.out _ HCT.out) (fun _ => ?_)
                  clear hK K
                  ((try dsimp only); (try simp only [Act.put, List.setIfInBounds_toArray, List.set_cons_zero, List.set_cons_succ]))
                  (repeat (refine planT_read (v := ?_) rfl rfl ?_ ?_ ?_; rotate_left; (focus rfl); (focus (intro u hSw; (try dsimp only at hSw); go_simp; (try with_reducible rfl); done)); ((try dsimp only); (try simp only [Act.put, List.setIfInBounds_toArray, List.set_cons_zero, List.set_cons_succ]))))
                  have f5 := HB5.out.free 7
                  have e5 := HB5.out.cell (o := 7) rfl
                  refine planT_last rfl ?_ (fun K hK => ?_)
                  · rfl
                  go_simp
                  refine hK.out _ _ ?_
                  clear hK K f5 e5 KEEP
                  ((try dsimp only); (try simp only [Act.put, List.setIfInBounds_toArray, List.set_cons_zero, List.set_cons_succ]))
                  have HB6 : Hid (Blk (w5z.setCell ⟨wo.heap.size, 7, none⟩ (.slice a5 (rows.length + 1) c5)) wo.heap.size #[.int .i64 ok, .int .i64 ow, .int .i64 oz, .int .i64 oc, .int .u32 ost, .slice none 0 0, .int .i64 owr, .slice a5 (rows ++ [x]).length c5] 53) := Lib.hid (by have h9 := HB5.out.set 7 (.slice a5 (rows.length + 1) c5); simp only [List.setIfInBounds_toArray, List.set_cons_zero, List.set_cons_succ] at h9; rw [show (rows ++ [x]).length = rows.length + 1 by simp]; exact h9)
                  have HC6 : Hid (Chg [wo.heap.size] w5z (w5z.setCell ⟨wo.heap.size, 7, none⟩ (.slice a5 (rows.length + 1) c5))) := Lib.hid ((Chg.refl _ _).setCell (.inl (by simp)) _)
                  have HO6 : Hid (OwnN (w5z.setCell ⟨wo.heap.size, 7, none⟩ (.slice a5 (rows.length + 1) c5)) wp7.heap.size (.slice a5 (rows ++ [x]).length c5) (rows ++ [x])) := Lib.hid (mem.own_chg HO5.out HC6.out (fun y hy => by have h8 := (World.ownsRow.lt HO5.out y hy).1; have := HG.out; simp; omega))
                  have HR6 := Lib.hid (HR5.out.keep HC6.out (by have := HG.out; simp; omega))
                  have HC7 := Lib.hid (HC5.out.into HC6.out (fun y hy => .inl (by simp at hy; simp [hy])))
                  go_wp2_with fail
                  have hmm := HM.out
                  have hzz := HZ.out
                  go_roundw
                  case rel => exact ⟨m + 1, z - 1, sn, rows ++ [x], a5, c5, by omega, by omega, by omega, Lib.hid (by omega), rfl, Lib.hid (num_next HLX2.out HBAD.out HX.out.1 (by have := HX.out.2; omega) HM.out), HB6, HO6, HR6, HC7⟩
                  case measure => simp [intOf]; omega
                · rw [hbad] at c2
                  have HLI := Lib.hid (show (rowV (rdV zs 1) (rdS zs 1) n7 sp7 = rows ∧ rowS (rdS zs 1) n7 sp7 = sy) ∧ rows.length ≤ 255 ∧ ∀ x ∈ rows, 0 ≤ x ∧ x < 256 ^ 1 from ⟨row_done ⟨HLX2.out.1, HLX2.out.2.2⟩ (.inr hbad), by have := HLX2.out.1; have := HN7.out; omega, HLX2.out.2.1⟩)
                  clear hbad hm
                  go_wp2_with fail
                  go_meet
                  case rel => exact ⟨sy, rows, ca_, cc_, HLI, HBTi, HOW2, HRS, HJ2⟩
              · have hmn : n7 ≤ m := by have := HZ.out; omega
                have HLI := Lib.hid (show (rowV (rdV zs 1) (rdS zs 1) n7 sp7 = rows ∧ rowS (rdS zs 1) n7 sp7 = sy) ∧ rows.length ≤ 255 ∧ ∀ x ∈ rows, 0 ≤ x ∧ x < 256 ^ 1 from ⟨row_done ⟨HLX2.out.1, HLX2.out.2.2⟩ (.inl hmn), by have := HLX2.out.1; have := HN7.out; omega, HLX2.out.2.1⟩)
                clear hmn hm
                go_wp2_with fail
                go_meet
                case rel => exact ⟨sy, rows, ca_, cc_, HLI, HBTi, HOW2, HRS, HJ2⟩
          case rest =>
          obtain ⟨sr, rds, qa, qc, HLR, HBTr, HOR, HRr, HJR⟩ := hcut
          rename World => wq
          have HCQ : Hid (Chg [b] wo wq) := Lib.hid (HCp7.out.into HJR.out (fun y hy => by simp at hy; rcases hy with rfl | rfl; exact .inl (by simp); exact .inr (Nat.le_refl _)))
          go_upto_block 8 with (go_at_call 25; refine (rnum1 b (.slice va zs.length vc) zs _ _ HRr.out).mono ?_; rintro e wp8 ⟨x8, sp8, rfl, HXp8, hr, hc⟩; have HRp8 := Lib.hid hr; have HCp8 : Hid (Chg [b] wo wp8) := Lib.hid (HCQ.out.trans hc); have HJR8 : Hid (Chg [b, wo.heap.size] wp7 wp8) := Lib.hid (HJR.out.into hc (fun y hy => .inl (by simp at hy; simp [hy]))); (obtain ⟨n8, rfl⟩ : ∃ n : Nat, x8 = (n : Int) := ⟨x8.toNat, (by have := HXp8.out; omega)⟩); have HBp8 := Lib.hid (HBTr.out.keep hc (by have := HG.out; simp; omega)); have HOR8 := Lib.hid (mem.own_chg HOR.out hc (fun y hy => by have h8 := (World.ownsRow.lt HOR.out y hy).1; have h7 := HBp7.out.lt; have := HG.out; simp; omega)); clear hr hc)
          have HN78 := HN7
          have HN7 : Hid (n8 ≤ 255) := Lib.hid (by have := HXp8.out; omega)
          go_cut [16] from 181 to 199 (fun _ wc => ∃ (sy : St) (rows : List Int) (ca_ : Option Addr) (cc_ : Nat), Hid ((rowV (rdV zs 4) (rdS zs 4) n8 sp8 = rows ∧ rowS (rdS zs 4) n8 sp8 = sy) ∧ rows.length ≤ 255 ∧ ∀ x ∈ rows, 0 ≤ x ∧ x < 256 ^ 4) ∧ Hid (Blk wc wo.heap.size #[.int .i64 ok, .int .i64 ow, .int .i64 oz, .int .i64 oc, .int .u32 ost, .slice ca_ rows.length cc_, .int .i64 owr, .slice qa rds.length qc] 53) ∧ Hid (OwnW wc wp8.heap.size (.slice ca_ rows.length cc_) rows) ∧ Hid (RQ wc b (.slice va zs.length vc) zs sy) ∧ Hid (Chg [b, wo.heap.size] wp8 wc))
          case first =>
            have HG1 := HG
            have HG : Hid (b < w5.heap.size ∧ w5.heap.size < nb2 ∧ nb2 ≤ wo.heap.size ∧ True) := Lib.hid ⟨HG1.out.1, HG1.out.2.1, HG1.out.2.2, trivial⟩
            go_wp2_with fail
            go_loopw [16] (fun i wr => ∃ (m : Nat) (z : Int) (sy : St) (rows : List Int) (ca_ : Option Addr) (cc_ : Nat), m ≤ n8 ∧ 0 ≤ z ∧ z ≤ 255 ∧ Hid (z = (n8 : Int) - (m : Int)) ∧ i = .int .i64 z ∧ Hid (rows.length = m ∧ (∀ x ∈ rows, 0 ≤ x ∧ x < 256 ^ 4) ∧ rowV (rdV zs 4) (rdS zs 4) n8 sp8 = rows ++ rowV (rdV zs 4) (rdS zs 4) (n8 - m) sy ∧ rowS (rdS zs 4) n8 sp8 = rowS (rdS zs 4) (n8 - m) sy) ∧ Hid (Blk wr wo.heap.size #[.int .i64 ok, .int .i64 ow, .int .i64 oz, .int .i64 oc, .int .u32 ost, .slice ca_ rows.length cc_, .int .i64 owr, .slice qa rds.length qc] 53) ∧ Hid (OwnW wr wp8.heap.size (.slice ca_ rows.length cc_) rows) ∧ Hid (RQ wr b (.slice va zs.length vc) zs sy) ∧ Hid (Chg [b, wo.heap.size] wp8 wr)) (fun i _ => (intOf i).toNat)
            case atStart => exact ⟨0, (n8 : Int), sp8, [], none, 0, Nat.zero_le _, by omega, by have := HN7.out; omega, Lib.hid (by simp), rfl, Lib.hid ⟨rfl, by simp, by simp, by simp⟩, HBp8, Lib.hid (World.ownsRow_nil _ _ _ _), HRp8, Lib.hid (Chg.refl _ _)⟩
            case round =>
              obtain ⟨m, z, sy, rows, ca_, cc_, hm, hz0, hz1, HZ, rfl, HLX2, HBTi, HOW2, HRS, HJ2⟩ := hrel
              obtain ⟨wi, rfl⟩ : ∃ wi : World, wi = wr := ⟨_, rfl⟩
              have c2 := HRS.out.box.cell (o := 2) rfl
              by_cases h0 : 0 < z
              · cases hbad : sy.bad
                · have HBAD := Lib.hid hbad
                  have HM : Hid (m < n8) := Lib.hid (by have := HZ.out; omega)
                  have HLB : Hid (rows.length ≤ 1000) := Lib.hid (by have := HLX2.out.1; have := HM.out; have := HN7.out; omega)
                  have HGI : Hid (wp8.heap.size ≤ wi.heap.size) := Lib.hid HJ2.out.size
                  have HG0 := HG
                  have HG : Hid (b < w5.heap.size ∧ w5.heap.size < nb2 ∧ nb2 ≤ wo.heap.size ∧ wo.heap.size < wp8.heap.size ∧ wp8.heap.size ≤ wi.heap.size) := Lib.hid ⟨HG0.out.1, HG0.out.2.1, HG0.out.2.2.1, HBp8.out.lt, HGI.out⟩
                  have k1 : IntKind.i64.wrap (z - 1) = z - 1 := by rw [IntKind.wrap_i64]; omega
                  have HNT : Hid (∀ y, (Value.slice ca_ rows.length cc_).ownBlock = some y → wp8.heap.size ≤ y ∧ y < wi.heap.size) := Lib.hid (fun y hy => World.ownsRow.lt HOW2.out y hy)
                  have HTL : Hid (wo.heap.size ∉ (b :: (Value.slice ca_ rows.length cc_).ownBlock.toList)) := Lib.hid (by intro hh; simp only [List.mem_cons, Option.mem_toList] at hh; have h1 := HG.out; rcases hh with hh | hh; omega; have h2 := HNT.out _ hh; omega)
                  rw [hbad] at c2
                  have eF := HBTi.out.cell (o := 5) rfl
                  have KEEP := Lib.hid (fun (V : World) (h : Chg (b :: (Value.slice ca_ rows.length cc_).ownBlock.toList) wi V) => (⟨h.keep eF HTL.out, Lib.hid h⟩ : (fun V : World => V.cell? ⟨wo.heap.size, 5, none⟩ = some (.slice ca_ rows.length cc_) ∧ Hid (Chg (b :: (Value.slice ca_ rows.length cc_).ownBlock.toList) wi V)) V))
                  clear eF hbad hm
                  go_upto_region 48 with fail
                  have HD : Hid (Chg [b] wi wi.drew) := Lib.hid (Chg.refl _ _).drew
                  have hHeld : (fun V : World => V.cell? ⟨wo.heap.size, 5, none⟩ = some (.slice ca_ rows.length cc_) ∧ Hid (Chg (b :: (Value.slice ca_ rows.length cc_).ownBlock.toList) wi V)) wi.drew := KEEP.out _ (HD.out.mono (by simp))
                  refine wp_region_planT (fun V : World => V.cell? ⟨wo.heap.size, 5, none⟩ = some (.slice ca_ rows.length cc_) ∧ Hid (Chg (b :: (Value.slice ca_ rows.length cc_).ownBlock.toList) wi V)) 8 [(0, true, some 192), (1, true, some 193), (2, true, some 194), (3, false, some 195), (4, true, some 196), (5, false, some 197), (6, false, some 198), (7, true, some 199)] (by kernel_rfl) (by kernel_rfl) (by kernel_rfl) (by kernel_rfl) (by kernel_rfl) (fun d c a v w h => by cases d <;> exact h) hHeld ?_
                  clear hHeld
                  (repeat (refine planT_read (v := ?_) rfl rfl ?_ ?_ ?_; rotate_left; (focus rfl); (focus (intro u hSw; (try dsimp only at hSw); go_simp; (try with_reducible rfl); done)); ((try dsimp only); (try simp only [Act.put, List.setIfInBounds_toArray, List.set_cons_zero, List.set_cons_succ]))))
                  refine planT_do rfl rfl ?_ (fun K hK => ?_)
                  · rfl
                  go_simp
                  go_wp2_with (go_at_call 25; refine (rnum4 b (.slice va zs.length vc) zs sy wi.drew (HRS.out.keep (L := []) (Chg.refl _ _).drew (by simp))).mono ?_; rintro e wa ⟨x, sn, rfl, HX, hr, hc⟩; have kx : IntKind.u32.wrap x = x := (by have := HX.out; rw [IntKind.wrap_u32]; omega); have HRY := Lib.hid hr; have HCY : Hid (Chg [b] wi wa) := Lib.hid (HD.out.trans hc); clear hr hc)
                  refine hK.out _ _ (KEEP.out _ (HCY.out.mono (by simp))) (fun _ => ?_)
                  clear hK K
                  ((try dsimp only); (try simp only [Act.put, List.setIfInBounds_toArray, List.set_cons_zero, List.set_cons_succ]))
                  (repeat (refine planT_read (v := ?_) rfl rfl ?_ ?_ ?_; rotate_left; (focus rfl); (focus (intro u hSw; (try dsimp only at hSw); go_simp; (try with_reducible rfl); done)); ((try dsimp only); (try simp only [Act.put, List.setIfInBounds_toArray, List.set_cons_zero, List.set_cons_succ]))))
                  refine planT_do rfl rfl ?_ (fun K hK => ?_)
                  · rfl
                  go_simp
                  refine hK.out _ _ (KEEP.out _ ((HCY.out.alloc _).mono (by simp))) (fun _ => ?_)
                  clear hK K
                  ((try dsimp only); (try simp only [Act.put, List.setIfInBounds_toArray, List.set_cons_zero, List.set_cons_succ]))
                  refine planT_do rfl rfl ?_ (fun K hK => ?_)
                  · rfl
                  have HOY : Hid (OwnW (wa.alloc (.cells #[.int .u32 x] 49)) wp8.heap.size (.slice ca_ rows.length cc_) rows) := Lib.hid (mem.own_chg HOW2.out (HCY.out.alloc _) (fun y hy => by have := HNT.out y hy; have := HG.out; simp; omega))
                  obtain ⟨i0, hi, hz0', hz1', hz2'⟩ := HI5.out
                  refine wp_append_any (o := ⟨some 198, _, _, _, _, _⟩) _ (.tmp 193) (.tmp 197) 50 rfl wp8.heap.size 49 i0 (.int .u32 0) 1 4 Try.underlying50 hi hz0' hz1' hz2' rfl (by decide) _ _ _ rfl HOY.out _ 1 [.int .u32 x] rfl (reads_one wa _ _) (by intro u hu; simp at hu; subst hu; rfl) (by have := HLB.out; unfold maxLen; omega) (by have := HLB.out; omega) (by exact Nat.le_trans HGI.out (HCY.out.alloc _).size) ?_
                  intro v5 w5z ho5 hg5
                  have HO5 : Hid (OwnW w5z wp8.heap.size v5 (rows ++ [x])) := Lib.hid (OwnW.add ho5)
                  have HCT : Hid (Chg (b :: (Value.slice ca_ rows.length cc_).ownBlock.toList) wi w5z) := Lib.hid (((HCY.out.mono (L' := (b :: (Value.slice ca_ rows.length cc_).ownBlock.toList)) (by simp)).alloc _).grown hg5 (fun y hy => .inl (List.mem_cons_of_mem _ (Option.mem_toList.2 hy))))
                  have HC5 : Hid (Chg [b, wo.heap.size] wp8 w5z) := Lib.hid (HJ2.out.into HCT.out (fun y hy => by
                    simp only [List.mem_cons, Option.mem_toList] at hy
                    rcases hy with hy | hy
                    · exact .inl (by simp [hy])
                    · exact .inr (HNT.out y hy).1))
                  have HCg : Hid (Chg ((Value.slice ca_ rows.length cc_).ownBlock.toList) wa w5z) := Lib.hid (((Chg.refl _ wa).alloc _).grown hg5 (fun y hy => .inl (Option.mem_toList.2 hy)))
                  have HB5 := Lib.hid (HBTi.out.keep HCT.out HTL.out)
                  have HR5 := Lib.hid (HRY.out.keep HCg.out (fun y hy => by have h8 := HNT.out _ (Option.mem_toList.1 hy); have := HG.out; omega))
                  obtain ⟨a5, c5, rfl⟩ := own_slice HO5.out (by decide)
                  clear ho5 hg5 hi hz0' hz1' hz2'
                  refine hK.out _ _ (KEEP.out _ HCT.out) (fun _ => ?_)
                  clear hK K
                  ((try dsimp only); (try simp only [Act.put, List.setIfInBounds_toArray, List.set_cons_zero, List.set_cons_succ]))
                  (repeat (refine planT_read (v := ?_) rfl rfl ?_ ?_ ?_; rotate_left; (focus rfl); (focus (intro u hSw; (try dsimp only at hSw); go_simp; (try with_reducible rfl); done)); ((try dsimp only); (try simp only [Act.put, List.setIfInBounds_toArray, List.set_cons_zero, List.set_cons_succ]))))
                  have f5 := HB5.out.free 5
                  have e5 := HB5.out.cell (o := 5) rfl
                  refine planT_last rfl ?_ (fun K hK => ?_)
                  · rfl
                  go_simp
                  refine hK.out _ _ ?_
                  clear hK K f5 e5 KEEP
                  ((try dsimp only); (try simp only [Act.put, List.setIfInBounds_toArray, List.set_cons_zero, List.set_cons_succ]))
                  have HB6 : Hid (Blk (w5z.setCell ⟨wo.heap.size, 5, none⟩ (.slice a5 (rows.length + 1) c5)) wo.heap.size #[.int .i64 ok, .int .i64 ow, .int .i64 oz, .int .i64 oc, .int .u32 ost, .slice a5 (rows ++ [x]).length c5, .int .i64 owr, .slice qa rds.length qc] 53) := Lib.hid (by have h9 := HB5.out.set 5 (.slice a5 (rows.length + 1) c5); simp only [List.setIfInBounds_toArray, List.set_cons_zero, List.set_cons_succ] at h9; rw [show (rows ++ [x]).length = rows.length + 1 by simp]; exact h9)
                  have HC6 : Hid (Chg [wo.heap.size] w5z (w5z.setCell ⟨wo.heap.size, 5, none⟩ (.slice a5 (rows.length + 1) c5))) := Lib.hid ((Chg.refl _ _).setCell (.inl (by simp)) _)
                  have HO6 : Hid (OwnW (w5z.setCell ⟨wo.heap.size, 5, none⟩ (.slice a5 (rows.length + 1) c5)) wp8.heap.size (.slice a5 (rows ++ [x]).length c5) (rows ++ [x])) := Lib.hid (mem.own_chg HO5.out HC6.out (fun y hy => by have h8 := (World.ownsRow.lt HO5.out y hy).1; have := HG.out; simp; omega))
                  have HR6 := Lib.hid (HR5.out.keep HC6.out (by have := HG.out; simp; omega))
                  have HC7 := Lib.hid (HC5.out.into HC6.out (fun y hy => .inl (by simp at hy; simp [hy])))
                  go_wp2_with fail
                  have hmm := HM.out
                  have hzz := HZ.out
                  go_roundw
                  case rel => exact ⟨m + 1, z - 1, sn, rows ++ [x], a5, c5, by omega, by omega, by omega, Lib.hid (by omega), rfl, Lib.hid (num_next HLX2.out HBAD.out HX.out.1 (by have := HX.out.2; omega) HM.out), HB6, HO6, HR6, HC7⟩
                  case measure => simp [intOf]; omega
                · rw [hbad] at c2
                  have HLI := Lib.hid (show (rowV (rdV zs 4) (rdS zs 4) n8 sp8 = rows ∧ rowS (rdS zs 4) n8 sp8 = sy) ∧ rows.length ≤ 255 ∧ ∀ x ∈ rows, 0 ≤ x ∧ x < 256 ^ 4 from ⟨row_done ⟨HLX2.out.1, HLX2.out.2.2⟩ (.inr hbad), by have := HLX2.out.1; have := HN7.out; omega, HLX2.out.2.1⟩)
                  clear hbad hm
                  go_wp2_with fail
                  go_meet
                  case rel => exact ⟨sy, rows, ca_, cc_, HLI, HBTi, HOW2, HRS, HJ2⟩
              · have hmn : n8 ≤ m := by have := HZ.out; omega
                have HLI := Lib.hid (show (rowV (rdV zs 4) (rdS zs 4) n8 sp8 = rows ∧ rowS (rdS zs 4) n8 sp8 = sy) ∧ rows.length ≤ 255 ∧ ∀ x ∈ rows, 0 ≤ x ∧ x < 256 ^ 4 from ⟨row_done ⟨HLX2.out.1, HLX2.out.2.2⟩ (.inl hmn), by have := HLX2.out.1; have := HN7.out; omega, HLX2.out.2.1⟩)
                clear hmn hm
                go_wp2_with fail
                go_meet
                case rel => exact ⟨sy, rows, ca_, cc_, HLI, HBTi, HOW2, HRS, HJ2⟩
          case rest =>
          obtain ⟨sy, rows, ca_, cc_, HLI, HBTc, HOC, HRC, HJC⟩ := hcut
          rename World => wc
          have HCC : Hid (Chg [b] wo wc) := Lib.hid (HCp8.out.into HJC.out (fun y hy => by simp at hy; rcases hy with rfl | rfl; exact .inl (by simp); exact .inr (Nat.le_refl _)))
          have HBSc := Lib.hid (HBT.out.keep HCC.out (by have := HG.out; simp; omega))
          have HLB : Hid (ds.length ≤ 1000) := Lib.hid (by have h9 := HLX.out.1; rw [List.length_map] at h9; have := HN2B.out; have := HLT.out; omega)
          have HBASE : Hid (wt.heap.size ≤ nb2) := Lib.hid (by rw [HN2.out]; exact Nat.le_refl _)
          have HG0 := HG
          have HG78 : Hid (wp7.heap.size ≤ wp8.heap.size) := Lib.hid HJR8.out.size
          have HG : Hid (b < w5.heap.size ∧ w5.heap.size < nb2 ∧ nb2 ≤ wo.heap.size ∧ wo.heap.size < wp7.heap.size ∧ wp7.heap.size ≤ wc.heap.size) := Lib.hid ⟨HG0.out.1, HG0.out.2.1, HG0.out.2.2, HBp7.out.lt, Nat.le_trans HG78.out HJC.out.size⟩
          have HORc := Lib.hid (mem.own_chg HOR8.out HJC.out (fun y hy => by have h8 := (World.ownsRow.lt HOR8.out y hy).1; have := HG.out; simp; omega))
          have HSN : Hid (SubO wc wp7.heap.size (⟨⟨ok, ow, oz, oc, ost, ca_, rows.length, cc_, owr, qa, rds.length, qc⟩, rows, rds⟩ : DO)) := Lib.hid ⟨⟨mem.own_base HOC.out HG78.out, HORc.out⟩, (by have := HXp5.out.2; unfold fit4; omega), (fun x hx => by have := HLI.out.2.2 x hx; unfold fit4; omega), HLI.out.2.1, HLR.out.2.1⟩
          have HV : Hid (obV zs sx = DO.p (⟨⟨ok, ow, oz, oc, ost, ca_, rows.length, cc_, owr, qa, rds.length, qc⟩, rows, rds⟩ : DO) ∧ obS zs sx = sy) := Lib.hid (by
            obtain ⟨⟨rfl, rfl⟩, -⟩ := HXp1.out
            obtain ⟨⟨rfl, rfl⟩, -⟩ := HXp2.out
            obtain ⟨⟨rfl, rfl⟩, -⟩ := HXp3.out
            obtain ⟨⟨rfl, rfl⟩, -⟩ := HXp4.out
            obtain ⟨⟨rfl, rfl⟩, -⟩ := HXp5.out
            obtain ⟨⟨rfl, rfl⟩, -⟩ := HXp6.out
            obtain ⟨⟨e7, rfl⟩, -⟩ := HXp7.out
            obtain ⟨⟨e8, rfl⟩, -⟩ := HXp8.out
            have h7 := HLR.out.1
            have h8 := HLI.out.1
            constructor
            · unfold obV hd6
              dsimp only
              rw [← e7, Int.toNat_natCast, h7.1, h7.2, ← e8, Int.toNat_natCast, h8.1]
              rfl
            · unfold obS hd6
              dsimp only
              rw [← e7, Int.toNat_natCast, h7.2, ← e8, Int.toNat_natCast, h8.2])
          have eS := HBSc.out.cell (o := 1) rfl
          go_wp2_with (first | (at_builtin; have HOY : Hid (OwnOs (wc.alloc (.cells #[.int .i64 ok, .int .i64 ow, .int .i64 oz, .int .i64 oc, .int .u32 ost, .slice ca_ rows.length cc_, .int .i64 owr, .slice qa rds.length qc] 53)) nb2 (.slice ra_ ds.length rc_) ds) := Lib.hid (mem.own_chg HOW.out (HCC.out.alloc _) (fun y hy => by have h8 := (World.ownsRow.lt HOW.out y hy).1; have := HG.out; simp; omega)); obtain ⟨i0, hi, hz0, hz1, hz2⟩ := HI2.out; refine wpList_append_row (o := ⟨some 204, _, _, _, _, _⟩) rfl (.tmp 201) (.tmp 203) 25 rfl nb2 53 i0 (.agg #[.int .i64 0, .int .i64 0, .int .i64 0, .int .i64 0, .int .u32 0, .slice none 0 0, .int .i64 0, .slice none 0 0]) 8 96 Try.underlying25 hi hz0 hz1 hz2 rfl (by decide) _ _ _ rfl HOY.out wc.heap.size (#[.int .i64 ok, .int .i64 ow, .int .i64 oz, .int .i64 oc, .int .u32 ost, .slice ca_ rows.length cc_, .int .i64 owr, .slice qa rds.length qc]).toList rfl rfl (fun j u hu => (Blk.new wc #[.int .i64 ok, .int .i64 ow, .int .i64 oz, .int .i64 oc, .int .u32 ost, .slice ca_ rows.length cc_, .int .i64 owr, .slice qa rds.length qc] 53).cell (by rw [← Array.getElem?_toList]; exact hu)) (by intro u hu; simp at hu; rcases hu with rfl | rfl | rfl | rfl | rfl | rfl | rfl | rfl <;> rfl) (by have := HLB.out; unfold maxLen; omega) (by have := HLB.out; omega) (by have := HG.out; have := HCC.out.size; simp; omega) ?_; intro v5 wz ho5 hg5 hb5; have HO5 : Hid (OwnOs wz nb2 v5 (ds ++ [(⟨⟨ok, ow, oz, oc, ost, ca_, rows.length, cc_, owr, qa, rds.length, qc⟩, rows, rds⟩ : DO)])) := Lib.hid (OwnOs.add ho5); have HNT : Hid (∀ y, (Value.slice ra_ ds.length rc_).ownBlock = some y → nb2 ≤ y ∧ y < wo.heap.size) := Lib.hid (fun y hy => World.ownsRow.lt HOW.out y hy); have HCg : Hid (Chg ((Value.slice ra_ ds.length rc_).ownBlock.toList) wc wz) := Lib.hid (((Chg.refl _ wc).alloc _).grown hg5 (fun y hy => .inl (Option.mem_toList.2 hy))); have HBz := Lib.hid (HBSc.out.keep HCg.out (by intro hh; have h8 := HNT.out _ (Option.mem_toList.1 hh); have := HG.out; omega)); have HRz := Lib.hid (HRC.out.keep HCg.out (fun y hy => by have h8 := HNT.out _ (Option.mem_toList.1 hy); have := HG.out; omega)); have HCz : Hid (Chg [b, w5.heap.size] wt wz) := Lib.hid ((HJ.out.into HCC.out (fun y hy => .inl (by simp at hy; simp [hy]))).into HCg.out (fun y hy => .inr (by have h8 := HNT.out _ (Option.mem_toList.1 hy); have := HG.out; have h7 := HBASE.out; omega))); have HB5 := Lib.hid hb5; (obtain ⟨a5, c5, rfl⟩ := own_slice HO5.out (by decide)); have fz := HBz.out.free 1; have ez := HBz.out.cell (o := 1) rfl; clear ho5 hg5 hb5 hi hz0 hz1 hz2) | (refine wpList_load_blk rfl 53 (.tmp 14) rfl wo.heap.size rfl HBTc.out _ Try.underlying53 rfl szObject ?_))
          have HB6 : Hid (Blk (wz.setCell ⟨w5.heap.size, 1, none⟩ (.slice a5 (ds.length + 1) c5)) w5.heap.size #[.slice ua ts.length uc, (.slice a5 (ds ++ [(⟨⟨ok, ow, oz, oc, ost, ca_, rows.length, cc_, owr, qa, rds.length, qc⟩, rows, rds⟩ : DO)]).length c5)] 27) := Lib.hid (by have h9 := HBz.out.set 1 (.slice a5 (ds.length + 1) c5); simp only [List.setIfInBounds_toArray, List.set_cons_zero, List.set_cons_succ] at h9; rw [show (ds ++ [(⟨⟨ok, ow, oz, oc, ost, ca_, rows.length, cc_, owr, qa, rds.length, qc⟩, rows, rds⟩ : DO)]).length = ds.length + 1 by simp]; exact h9)
          have HC6 : Hid (Chg [w5.heap.size] wz (wz.setCell ⟨w5.heap.size, 1, none⟩ (.slice a5 (ds.length + 1) c5))) := Lib.hid ((Chg.refl _ _).setCell (.inl (by simp)) _)
          have HO6 : Hid (OwnOs (wz.setCell ⟨w5.heap.size, 1, none⟩ (.slice a5 (ds.length + 1) c5)) nb2 (.slice a5 (ds ++ [(⟨⟨ok, ow, oz, oc, ost, ca_, rows.length, cc_, owr, qa, rds.length, qc⟩, rows, rds⟩ : DO)]).length c5) (ds ++ [(⟨⟨ok, ow, oz, oc, ost, ca_, rows.length, cc_, owr, qa, rds.length, qc⟩, rows, rds⟩ : DO)])) := Lib.hid (mem.own_chg HO5.out HC6.out (fun y hy => by have h8 := (World.ownsRow.lt HO5.out y hy).1; have := HG.out; simp; omega))
          have HR6 := Lib.hid (HRz.out.keep HC6.out (by have := HG.out; simp; omega))
          have HC7 := Lib.hid (HCz.out.into HC6.out (fun y hy => .inl (by simp at hy; simp [hy])))
          have HS6 : Hid (∀ d ∈ ds ++ [(⟨⟨ok, ow, oz, oc, ost, ca_, rows.length, cc_, owr, qa, rds.length, qc⟩, rows, rds⟩ : DO)], SubO (wz.setCell ⟨w5.heap.size, 1, none⟩ (.slice a5 (ds.length + 1) c5)) nb2 d ∧ ∀ y ∈ NbO d, (Value.slice a5 (ds ++ [(⟨⟨ok, ow, oz, oc, ost, ca_, rows.length, cc_, owr, qa, rds.length, qc⟩, rows, rds⟩ : DO)]).length c5).ownBlock ≠ some y) := Lib.hid (by
            intro d hd
            have hsz := HCC.out.size
            have hG := HG.out
            rcases List.mem_append.1 hd with hd | hd
            · obtain ⟨h1, h2⟩ := HSB.out d hd
              have h3 := fun y hy => h1.lt y hy
              refine ⟨((h1.keep HCC.out (fun y hy hh => ?_)).keep HCg.out (fun y hy hh => ?_)).keep HC6.out (fun y hy hh => ?_), fun y hy hh => ?_⟩
              · have := h3 y hy; simp at hh; omega
              · exact h2 y hy (Option.mem_toList.1 hh)
              · have := h3 y hy; simp at hh; omega
              · have := h3 y hy
                rcases HB5.out y hh with h6 | h6
                · exact h2 y hy h6
                · simp at h6; omega
            · simp only [List.mem_singleton] at hd
              subst hd
              have h1 := HSN.out
              have h3 := fun y hy => h1.lt y hy
              refine ⟨((h1.keep HCg.out (fun y hy hh => ?_)).keep HC6.out (fun y hy hh => ?_)).mono (by omega), fun y hy hh => ?_⟩
              · have h4 := h3 y hy
                have h5 := HNT.out _ (Option.mem_toList.1 hh)
                omega
              · have := h3 y hy; simp at hh; omega
              · have h4 := h3 y hy
                rcases HB5.out y hh with h6 | h6
                · have h5 := HNT.out _ h6; omega
                · simp at h6; omega)
          have hltj := HLT.out
          go_roundw
          case rel => exact ⟨m + 1, sy, ds ++ [(⟨⟨ok, ow, oz, oc, ost, ca_, rows.length, cc_, owr, qa, rds.length, qc⟩, rows, rds⟩ : DO)], a5, c5, by omega, by go_num, Lib.hid (by rw [List.map_append, ← HV.out.2]; exact row_step HLX.out HBAD.out HV.out.1 HLT.out), HB6, HO6, HS6, HR6, HC7⟩
          case measure => simp [intOf]; omega
        · rw [hbad] at c2
          have HLR := Lib.hid (row_done HLX.out (.inr hbad))
          clear hbad hm
          go_wp2_with fail
          go_meet
          case rel => exact ⟨sx, ds, ra_, rc_, HLR, HBT, HOW, Lib.hid (fun d hd => (HSB.out d hd).1), HRS, HJ⟩
      · have HLR := Lib.hid (row_done HLX.out (.inl (by omega : n2 ≤ m)))
        have hmn : ¬ (m : Int) < (n2 : Int) := by omega
        clear hlt hm
        go_wp2_with fail
        go_meet
        case rel => exact ⟨sx, ds, ra_, rc_, HLR, HBT, HOW, Lib.hid (fun d hd => (HSB.out d hd).1), HRS, HJ⟩
  case rest =>
  obtain ⟨sx, ps, pa, pc, HOS, HBS2, HOO, HSO, HRS2, HJO⟩ := hcut
  rename World => wu
  have HE : Hid ((decT zs = ts.map DT.p ∧ decO zs = ps.map DO.p) ∧ s7 zs = sx) := Lib.hid (by
    have h5 : Go.Proofs.Ytkmalnojkjmjiaa.img.s5 zs = s5 := by unfold Go.Proofs.Ytkmalnojkjmjiaa.img.s5; rw [HX5.out.1.2, HX4.out.1.2, HX3.out.1.2]
    have hn1 : nT zs = n1 := by have h9 := HX4.out.1.1; rw [HX3.out.1.2] at h9; unfold nT; omega
    have hn2 : nO zs = n2 := by have h9 := HX5.out.1.1; rw [HX4.out.1.2, HX3.out.1.2] at h9; unfold nO; omega
    have h6 : s6 zs = stt := by unfold s6; rw [h5, hn1]; exact HTS.out.1.2
    refine ⟨⟨?_, ?_⟩, ?_⟩
    · unfold decT; rw [h5, hn1]; exact HTS.out.1.1
    · unfold decO; rw [h6, hn2]; exact HOS.out.1
    · unfold s7; rw [h6, hn2]; exact HOS.out.2)
  have HCB : Hid (Chg [b] (W.alloc (.cells #[.slice none 0 0, .slice none 0 0] 27)) w5) := Lib.hid (((Chg.refl [b] (W.alloc (.cells #[.slice none 0 0, .slice none 0 0] 27))).alloc _).trans HC5.out)
  have HCS : Hid (Chg [b] (W.alloc (.cells #[.slice none 0 0, .slice none 0 0] 27)) wS) := Lib.hid (by rw [HWS.out]; exact HCB.out.alloc _)
  have HCU : Hid (Chg [b, w5.heap.size] (W.alloc (.cells #[.slice none 0 0, .slice none 0 0] 27)) wu) := Lib.hid (((HCS.out.mono (by simp)).trans HJT.out).trans HJO.out)
  have c1 := HRS2.out.box.cell (o := 1) rfl
  obtain ⟨kn, hkn⟩ : ∃ kn, sx.at_ = kn := ⟨_, rfl⟩
  rw [hkn] at c1
  have HKN := Lib.hid hkn
  have hkb : (kn : Int) ≤ 65536 := by have h1 := HRS2.out.at_le; have h2 := HRS2.out.len; omega
  clear hkn
  go_upto_region 52 with (go_at_call 25; refine (rnum2 b (.slice va zs.length vc) zs _ _ HRS2.out).mono ?_; rintro e wF ⟨x, sF, rfl, HX, hr, hc⟩; have HRF := Lib.hid hr; have HCF : Hid (Chg [b, w5.heap.size] (W.alloc (.cells #[.slice none 0 0, .slice none 0 0] 27)) wF) := Lib.hid (HCU.out.trans (hc.mono (by simp))); have HCFo := Lib.hid hc; clear hr hc)
  have HBRF := Lib.hid (HBR00.out.keep HCF.out (by have h1 := HBW.out; have h2 := HSS.out; simp; omega))
  have HFIN : Hid (Chg [] W wF) := Lib.hid (HCA.out.into HCF.out (fun y hy => .inr (by have h1 := HBW.out; have h2 := HSS.out; simp at hy; omega)))
  clear c1
  have c2 := HRF.out.box.cell (o := 2) rfl
  cases hbF : sF.bad
  rotate_left
  · rw [hbF] at c2
    have HDE := Lib.hid (rdec_bad HL.out HPM.out HE.out.2 HX.out.1.2 hbF)
    clear hbF
    go_wp2_with (refine wpList_store_blk rfl 27 (.tmp 2) (.tmp 216) rfl W.heap.size #[.slice none 0 0, .slice none 0 0] rfl rfl HBRF.out szSystem rfl (by simp [Value.oneCell']) ?_; intro w9 hb9 hc9; have HB9 := Lib.hid hb9; have HC9 := Lib.hid hc9; clear hb9 hc9)
    refine bodyPost_ret (results_row_tmp2 rfl _ _ W.heap.size 27 #[.slice none 0 0, .slice none 0 0] (0, 0) _ rfl HB9.out Try.underlying27 rfl szSystem) rfl ?_
    refine ⟨none, 0, none, 0, [], [], ?_, ⟨?_, ?_, by simp, by simp⟩, ⟨⟨Reads.nil _ _, by simp⟩, by simp⟩, ⟨Reads.nil _ _, by simp⟩, (HFIN.out).into HC9.out (fun y hy => .inr (by simp at hy; omega))⟩
    · rw [HDE.out.1, HDE.out.2]; rfl
    · rw [if_neg (by rw [HDE.out.1]; decide)]; rfl
    · rw [if_neg (by rw [HDE.out.1]; decide)]; rfl
  rw [hbF] at c2
  have HG := Lib.hid (rdec_good (kp := 0) HL.out HPM.out HE.out.2 HX.out.1.2 HX.out.1.1 hbF HKN.out)
  clear hbF
  obtain ⟨vs, es, rs, -⟩ := slice_high (P := Try.prog) Try.underlying22 sz5 HRB.out.1 kn (by have := HG.out.1; omega)
  have HVS : Hid (ReadsB W vs (zs.take kn)) := Lib.hid ⟨by rw [List.length_take, Nat.min_eq_left (by have := HG.out.1; omega), List.map_take]; simpa using rs, fun n hn => HRB.out.2 n (List.mem_of_mem_take hn)⟩
  have HSUM := Lib.hid (fun V (h : Chg [] W V) => rSum_any vs (zs.take kn) V (HVS.out.chg h) (by have := HL.out; rw [List.length_take]; omega))
  obtain ⟨sm, hsm⟩ : ∃ sm, sumM (zs.take kn) = sm := ⟨_, rfl⟩
  rw [hsm] at HSUM
  have HSM := Lib.hid hsm
  have hkl : (kn : Int) ≤ (zs.length : Int) := by have := HG.out.1; omega
  clear rs hsm
  by_cases hs : x = sm
  rotate_left
  · have hs1 : (x == sm) = false := by simpa using hs
    have hs2 : (x != sm) = true := by simpa using hs
    have HDE := Lib.hid (HG.out.2.1 (by rw [HSM.out]; exact hs))
    clear hs
    go_wp2_with (first | (refine wpList_store_blk rfl 27 (.tmp 2) (.tmp 225) rfl W.heap.size #[.slice none 0 0, .slice none 0 0] rfl rfl HBRm.out szSystem rfl (by simp [Value.oneCell']) ?_; intro w9 hb9 hc9; have HB9 := Lib.hid hb9; have HC9 := Lib.hid hc9; clear hb9 hc9) | (go_at_call 17; refine (HSUM.out _ HFIN.out).mono ?_; rintro e wm ⟨rfl, hc⟩; have HM := Lib.hid hc; have HBRm := Lib.hid (HBRF.out.keep hc (by simp)); clear hc))
    refine bodyPost_ret (results_row_tmp2 rfl _ _ W.heap.size 27 #[.slice none 0 0, .slice none 0 0] (0, 0) _ rfl HB9.out Try.underlying27 rfl szSystem) rfl ?_
    refine ⟨none, 0, none, 0, [], [], ?_, ⟨?_, ?_, by simp, by simp⟩, ⟨⟨Reads.nil _ _, by simp⟩, by simp⟩, ⟨Reads.nil _ _, by simp⟩, (HFIN.out.trans HM.out).into HC9.out (fun y hy => .inr (by simp at hy; omega))⟩
    · rw [HDE.out.1, HDE.out.2]; rfl
    · rw [if_neg (by rw [HDE.out.1]; decide)]; rfl
    · rw [if_neg (by rw [HDE.out.1]; decide)]; rfl
  have hs1 : (x == sm) = true := by simpa using hs
  have hs2 : (x != sm) = false := by simpa using hs
  have HGG := Lib.hid (HG.out.2.2 (by rw [HSM.out]; exact hs))
  clear hs
  by_cases hm : kn + 2 < zs.length
  · have HDE := Lib.hid (HGG.out.1 hm)
    have hmi : (kn : Int) + 2 < (zs.length : Int) := by omega
    clear hm
    go_upto_region 57 with (first | (go_at_call 17; refine (HSUM.out _ HFIN.out).mono ?_; rintro e wm ⟨rfl, hc⟩; have HM := Lib.hid hc; have HBRm := Lib.hid (HBRF.out.keep hc (by simp)); have c1 := (HRF.out.box.keep hc (by simp)).cell (o := 1) rfl; rw [HG.out.1.2] at c1; simp only [Int.natCast_add, Int.cast_ofNat_Int] at c1; clear hc))
    have hHeld : (fun V : World => V.cell? ⟨b, 1, none⟩ = some (.int .i64 ((kn : Int) + 2)) ∧ Hid (Blk V W.heap.size #[.slice none 0 0, .slice none 0 0] 27 ∧ Chg [W.heap.size] wm V)) wm.drew := ⟨c1, Lib.hid ⟨HBRm.out.drew, (Chg.refl _ _).drew⟩⟩
    refine wp_region_plan (fun V : World => V.cell? ⟨b, 1, none⟩ = some (.int .i64 ((kn : Int) + 2)) ∧ Hid (Blk V W.heap.size #[.slice none 0 0, .slice none 0 0] 27 ∧ Chg [W.heap.size] wm V)) [(0, true, some 234), (1, true, some 235), (2, true, some 236), (3, true, some 237), (4, true, some 238), (5, false, none), (6, true, some 3), (7, true, some 4)] (by kernel_rfl) (by kernel_rfl) (by kernel_rfl) (by kernel_rfl) (fun d c a v w h => by cases d <;> exact h) hHeld ?_
    have HC1K : Hid (wm.drew.cell? ⟨b, 1, none⟩ = some (.int .i64 ((kn : Int) + 2))) := Lib.hid c1
    clear hHeld c1
    repeat (refine planWp_read (v := ?_) rfl rfl ?_ ?_ ?_; rotate_left; (focus rfl); (focus (intro u hSw; (try dsimp only at hSw); go_simp; (try with_reducible rfl); done)); (try simp only [Act.put, List.setIfInBounds_toArray, List.set_cons_zero, List.set_cons_succ]))
    refine planWp_do rfl rfl ?_ (fun K hK => ?_)
    · rfl
    refine wp_store_blk 27 (.tmp 2) (.tmp 234) rfl W.heap.size #[.slice none 0 0, .slice none 0 0] rfl rfl HBRm.out.drew szSystem rfl (by simp [Value.oneCell']) ?_
    intro w9 hb9 hc9
    refine hK.out _ _ ⟨?_, Lib.hid ⟨hb9, (Chg.refl _ _).drew.trans hc9⟩⟩ (fun hHeld => ?_)
    · exact hc9.keep (p := ⟨b, 1, none⟩) HC1K.out (by have := HBW.out; simp; omega)
    clear hK K
    repeat (refine planWp_read (v := ?_) rfl rfl ?_ ?_ ?_; rotate_left; (focus rfl); (focus (intro u hSw; (try dsimp only at hSw); go_simp; (try with_reducible rfl); done)); (try simp only [Act.put, List.setIfInBounds_toArray, List.set_cons_zero, List.set_cons_succ]))
    refine planWp_nil ?_
    have HB9 := Lib.hid hb9
    have HC9 : Hid (Chg [W.heap.size] wm w9) := Lib.hid ((Chg.refl _ _).drew.trans hc9)
    clear hb9 hc9 hHeld
    go_wp2_with fail
    refine bodyPost_ret (results_row_tmp2 rfl _ _ W.heap.size 27 #[.slice none 0 0, .slice none 0 0] (0, 0) _ rfl HB9.out Try.underlying27 rfl szSystem) rfl ?_
    refine ⟨none, 0, none, 0, [], [], ?_, ⟨?_, ?_, by simp, by simp⟩, ⟨⟨Reads.nil _ _, by simp⟩, by simp⟩, ⟨Reads.nil _ _, by simp⟩, (HFIN.out.trans HM.out).into HC9.out (fun y hy => .inr (by simp at hy; omega))⟩
    · rw [HDE.out.1, HDE.out.2]; rfl
    · rw [if_neg (by rw [HDE.out.1]; decide)]; rfl
    · rw [if_neg (by rw [HDE.out.1]; decide)]; rfl
  · have HDE := Lib.hid (HGG.out.2 hm)
    have hmi : ¬ (kn : Int) + 2 < (zs.length : Int) := by omega
    clear hm
    have HBS2F := Lib.hid (HBS2.out.keep HCFo.out (by have := HSS.out; simp; omega))
    go_wp2_with (first | (refine wpList_store_blk rfl 27 (.tmp 2) (.tmp 239) rfl W.heap.size #[.slice ua ts.length uc, .slice pa ps.length pc] rfl rfl HBRm.out szSystem rfl (by simp [Value.oneCell']) ?_; intro w9 hb9 hc9; have HB9 := Lib.hid hb9; have HC9 := Lib.hid hc9; clear hb9 hc9) | (refine wpList_load_blk rfl 27 (.tmp 8) rfl w5.heap.size rfl HBSm.out _ Try.underlying27 rfl szSystem ?_) | (go_at_call 17; refine (HSUM.out _ HFIN.out).mono ?_; rintro e wm ⟨rfl, hc⟩; have HM := Lib.hid hc; have HBRm := Lib.hid (HBRF.out.keep hc (by simp)); have c1 := (HRF.out.box.keep hc (by simp)).cell (o := 1) rfl; rw [HG.out.1.2] at c1; simp only [Int.natCast_add, Int.cast_ofNat_Int] at c1; have HBSm := Lib.hid (HBS2F.out.keep hc (by simp)); clear hc))
    refine bodyPost_ret (results_row_tmp2 rfl _ _ W.heap.size 27 #[.slice ua ts.length uc, .slice pa ps.length pc] (0, 0) _ rfl HB9.out Try.underlying27 rfl szSystem) rfl ?_
    have HALO : Hid (Chg [b, W.heap.size] wu w9) := Lib.hid (((HCFo.out.mono (by simp)).trans (HM.out.mono (by simp))).trans (HC9.out.mono (by simp)))
    have HALT : Hid (Chg [b, w5.heap.size, W.heap.size] wt w9) := Lib.hid ((HJO.out.mono (fun y hy => by simp at hy ⊢; omega)).trans (HALO.out.mono (fun y hy => by simp at hy ⊢; omega)))
    have HLTS : Hid (W.heap.size < b ∧ b < w5.heap.size ∧ w5.heap.size < nb1 ∧ w5.heap.size < nb2) := Lib.hid ⟨by have := HBW.out; omega, HBSB.out.1, HBSB.out.2, HBSB2.out.2⟩
    have HTZ : ∀ d ∈ ts, SubT w9 nb1 d := fun d hd => (HST.out d hd).keep HALT.out (fun y hy => by have h3 := (HST.out d hd).lt y hy; have h7 := HLTS.out; simp; omega)
    have HOZ : ∀ d ∈ ps, SubO w9 nb2 d := fun d hd => (HSO.out d hd).keep HALO.out (fun y hy => by have h3 := (HSO.out d hd).lt y hy; have h7 := HLTS.out; simp; omega)
    refine ⟨ua, uc, pa, pc, ts, ps, ?_, ⟨?_, ?_, fun d hd => (HTZ d hd).2.2.1, fun d hd => (HOZ d hd).2.2.2⟩, OwnTs.reads (mem.own_chg HOT.out HALT.out (fun y hy => by have h3 := (World.ownsRow.lt HOT.out y hy).1; have h7 := HLTS.out; simp; omega)) HTZ, OwnOs.reads (mem.own_chg HOO.out HALO.out (fun y hy => by have h3 := (World.ownsRow.lt HOO.out y hy).1; have h7 := HLTS.out; simp; omega)) HOZ, (HFIN.out.trans HM.out).into HC9.out (fun y hy => .inr (by simp at hy; omega))⟩
    · rw [HDE.out.1, HDE.out.2]; rfl
    · rw [if_pos HDE.out.1]; exact HE.out.1.1.symm
    · rw [if_pos HDE.out.1]; exact HE.out.1.2.symm
end Go.Proofs.Ytkmalnojkjmjiaa.img
