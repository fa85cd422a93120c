/- Images: Decode. -/
import Derived.Test.YtkmalnojkjmjiaaImgI
namespace Go.Proofs.Ytkmalnojkjmjiaa.img
open Go Go.RowKit Go.Proofs.Ytkmalnojkjmjiaa.kit Go.Proofs.Ytkmalnojkjmjiaa.obj Go.Proofs.Ytkmalnojkjmjiaa.mem Go.Proofs.Ytkmalnojkjmjiaa.lay Go.Proofs.Ytkmalnojkjmjiaa.codec Go.Proofs.Ytkmalnojkjmjiaa.blk
set_option linter.unusedVariables false
set_option linter.unusedSimpArgs false
set_option maxRecDepth 20000
theorem results_row_tmp2 {P : Program} {fn : Func} {p q r : Tmp} {ty : TypeId} (h : fn.results = #[.cell p ty, .tmp q, .tmp r]) (tmps : Array Value) (w : World) (g : Nat) (t : TypeId) (cs : Array Value) (fr : Nat × Nat) (d : TypeDesc)
    (hp : tmps.getD p undef = .pointer (some ⟨g, 0, none⟩)) (hg : w.heap[g]? = some (.cells cs t fr))
    (hu : P.underlying ty = some d) (hd : (match d with | .struct _ | .array _ _ => true | _ => false) = true) (hi : (P.info? ty).map (·.size) = some cs.size) :
    (results fn tmps).run P w = .ok (.tuple #[.agg cs, tmps.getD q undef, tmps.getD r undef]) w := by
  have hp' : tmps[p]?.getD undef = .pointer (some ⟨g, 0, none⟩) := by simpa using hp
  simp [results, h, hp', asAddr, run_loadVar_row w g t ty cs fr d hg hu hd hi]
theorem Left_st (b g : Nat) (zs : List Int) (s : St) (w : World) (h : RSt w b g zs s) :
    Calls Try.prog 23 #[.pointer (some ⟨b, 0, none⟩)] w fun e w' => ∃ k : Nat, e = .returned (.int .i64 ((zs.length : Int) - k)) ∧ Hid (k ≤ zs.length ∧ (s.bad = false → k = s.at_)) ∧ RSt w' b g zs s ∧ Chg [] w w' := by
  refine (Left_any b g zs s.at_ s.bad w h).mono ?_
  rintro e w' ⟨rfl, hq⟩
  have hc := quiet_chg hq
  refine ⟨if s.bad = true then zs.length else s.at_, ?_, Lib.hid ⟨?_, fun hb => by rw [hb]; rfl⟩, h.keep hc (by simp) (by simp), hc⟩
  · refine ret_int ?_
    cases s.bad <;> simp
  · have := h.at_le
    split <;> omega
/-- how things stand behind the head -/
def P5 (zs : List Int) (n1 n2 : Nat) (s3 s5 : St) : Prop := s3 = rdS zs 1 (rdS zs 1 (rdS zs 1 ⟨0, false⟩)) ∧ (n1 : Int) = rdV zs 1 s3 ∧ (n2 : Int) = rdV zs 1 (rdS zs 1 s3) ∧ s5 = rdS zs 1 (rdS zs 1 s3)
theorem dec_bad {zs : List Int} {n1 n2 : Nat} {s3 s5 sx sF : St} (hl : zs.length ≤ 65536) (hm : ¬ (3 ≤ zs.length ∧ marks zs = false)) (hp : P5 zs n1 n2 s3 s5 ∧ sx = allS (obAS zs) n2 (allS (tkS zs) n1 s5)) (hf : sF = rdS zs 2 sx) (hb : sF.bad = true) : decE zs = 2 ∧ decAt zs = (zs.length : Int) := by
  obtain ⟨⟨h3, h1, h2, h5⟩, hx⟩ := hp
  have he := end_state h3 h1 h2
  rw [← h5, ← hx] at he
  have hbad : (rdS zs 2 (s7 zs)).bad = true := by
    by_cases hc : 3 ≤ zs.length
    · rw [← (he.1 hc).1, ← hf]; exact hb
    · rw [rd_bad (he.2 (by omega)).2]; exact (he.2 (by omega)).2
  unfold decE decAt
  rw [if_neg (by omega), if_neg hm, hbad, if_pos rfl, if_neg (by omega), if_neg hm, if_pos rfl]
  exact ⟨rfl, rfl⟩
theorem dec_good {zs : List Int} {n1 n2 : Nat} {s3 s5 sx sF : St} (hl : zs.length ≤ 65536) (hm : ¬ (3 ≤ zs.length ∧ marks zs = false)) (hp : P5 zs n1 n2 s3 s5 ∧ sx = allS (obAS zs) n2 (allS (tkS zs) n1 s5)) (hf : sF = rdS zs 2 sx) (hb : sF.bad = false) :
    sx.bad = false ∧ sx.at_ + 2 ≤ zs.length ∧ (¬ rdV zs 2 sx = sumM (zs.take sx.at_) → decE zs = 4 ∧ decAt zs = (sx.at_ : Int)) ∧ (rdV zs 2 sx = sumM (zs.take sx.at_) → (sx.at_ + 2 < zs.length → decE zs = 3 ∧ decAt zs = ((sx.at_ + 2 : Nat) : Int)) ∧ (¬ sx.at_ + 2 < zs.length → decE zs = 0 ∧ decAt zs = 0)) ∧
    (allV (tkV zs) (tkS zs) n1 s5 = decT zs ∧ allV (obA zs) (obAS zs) n2 (allS (tkS zs) n1 s5) = decO zs) := by
  obtain ⟨⟨h3, h1, h2, h5⟩, hx⟩ := hp
  have he := end_state h3 h1 h2
  rw [← h5, ← hx] at he
  have hsx : sx.bad = false := by
    cases hs : sx.bad
    · rfl
    · rw [hf, rd_bad hs, hs] at hb; cases hb
  have h3l : 3 ≤ zs.length := by
    rcases Nat.lt_or_ge zs.length 3 with h | h
    · have := (he.2 h).1; rw [hsx] at this; cases this
    · exact h
  obtain ⟨e7, ev⟩ := he.1 h3l
  have hat : sx.at_ + 2 ≤ zs.length := by
    rw [hf] at hb
    unfold rdS at hb
    rw [hsx, if_neg (by decide)] at hb
    by_cases hn : zs.length < sx.at_ + 2
    · rw [if_pos hn] at hb; cases hb
    · omega
  have hb7 : (rdS zs 2 (s7 zs)).bad = false := by rw [← e7, ← hf]; exact hb
  refine ⟨hsx, hat, fun hs => ?_, fun hs => ⟨fun hk => ?_, fun hk => ?_⟩, ev (by rw [← e7]; exact hsx)⟩
  · unfold decE decAt
    rw [if_neg (by omega), if_neg hm, hb7, if_neg (by decide), if_pos (by rw [← e7]; exact hs), if_neg (by omega), if_neg hm, if_neg (by decide), if_pos (by rw [← e7]; exact hs), e7]
    exact ⟨rfl, rfl⟩
  · unfold decE decAt
    rw [if_neg (by omega), if_neg hm, hb7, if_neg (by decide), if_neg (by rw [← e7]; exact fun h => h hs), if_pos (by rw [← e7]; exact hk), if_neg (by omega), if_neg hm, if_neg (by decide), if_neg (by rw [← e7]; exact fun h => h hs), if_pos (by rw [← e7]; exact hk), e7]
    exact ⟨rfl, rfl⟩
  · unfold decE decAt
    rw [if_neg (by omega), if_neg hm, hb7, if_neg (by decide), if_neg (by rw [← e7]; exact fun h => h hs), if_neg (by rw [← e7]; exact hk), if_neg (by omega), if_neg hm, if_neg (by decide), if_neg (by rw [← e7]; exact fun h => h hs), if_neg (by rw [← e7]; exact hk)]
    exact ⟨rfl, rfl⟩
theorem rd_at {zs : List Int} {n : Nat} {s : St} (h : (rdS zs n s).bad = false) : (rdS zs n s).at_ = s.at_ + n := by
  unfold rdS at h ⊢
  cases hs : s.bad
  · simp only [hs, Bool.false_eq_true, if_false] at h ⊢
    by_cases hn : zs.length < s.at_ + n
    · rw [if_pos hn] at h; cases h
    · rw [if_neg hn]
  · simp only [hs, if_true] at h; cases h
def DecOk (zs : List Int) (ts : List DT) (os : List DO) : Prop := ts.map DT.p = (if decE zs = 0 then decT zs else []) ∧ os.map DO.p = (if decE zs = 0 then decO zs else []) ∧ (∀ d ∈ ts, d.code.length ≤ 255) ∧ ∀ d ∈ os, d.ini.length ≤ 255 ∧ d.rds.length ≤ 255
set_option maxHeartbeats 32000000 in
theorem Decode_any (v : Value) (zs : List Int) (W : World) (hr : ReadsB W v zs) (hl : zs.length ≤ 65536) :
    Calls Try.prog 8 #[v] W fun e W' => ∃ ta tc oa oc ts os, e = .returned (.tuple #[.agg #[.slice ta ts.length tc, .slice oa os.length oc], .int .i64 (decAt zs), .int .i64 (decE zs)]) ∧ DecOk zs ts os ∧ ReadsDT W' (.slice ta ts.length tc) ts ∧ ReadsDO W' (.slice oa os.length oc) os ∧ Chg [] W W' := by
  obtain ⟨va, vc, rfl, -⟩ := reads_slice hr.1
  have HRB := Lib.hid hr
  have HL := Lib.hid hl
  obtain ⟨i0, hi, hz0, hz1, hz2⟩ := info_parts infoTask
  have HI1 := Lib.hid (show _ ∧ _ ∧ _ ∧ _ from ⟨hi, hz0, hz1, hz2⟩)
  obtain ⟨j0, hi', hz0', hz1', hz2'⟩ := info_parts infoObj
  have HI2 := Lib.hid (show _ ∧ _ ∧ _ ∧ _ from ⟨hi', hz0', hz1', hz2'⟩)
  have HCA : Hid (Chg [] W ((W.alloc (.cells #[.slice none 0 0, .slice none 0 0] 27)).alloc (.cells #[.slice none 0 0, .slice none 0 0] 27))) := Lib.hid (((Chg.refl _ _).alloc _).alloc _)
  have HNEW := Lib.hid (New_any (.slice va zs.length vc) zs ((W.alloc (.cells #[.slice none 0 0, .slice none 0 0] 27)).alloc (.cells #[.slice none 0 0, .slice none 0 0] 27)) (hr.chg HCA.out) (by omega))
  have HBR00 : Hid (Blk ((W.alloc (.cells #[.slice none 0 0, .slice none 0 0] 27)).alloc (.cells #[.slice none 0 0, .slice none 0 0] 27)) W.heap.size #[.slice none 0 0, .slice none 0 0] 27) := Lib.hid ((Blk.new W _ _).alloc _)
  have HBN00 : Hid (Blk ((W.alloc (.cells #[.slice none 0 0, .slice none 0 0] 27)).alloc (.cells #[.slice none 0 0, .slice none 0 0] 27)) (W.heap.size + 1) #[.slice none 0 0, .slice none 0 0] 27) := Lib.hid (by have := Blk.new (W.alloc (.cells #[.slice none 0 0, .slice none 0 0] 27)) #[.slice none 0 0, .slice none 0 0] 27; rwa [show (W.alloc (.cells #[.slice none 0 0, .slice none 0 0] 27)).heap.size = W.heap.size + 1 by simp] at this)
  have hbig : ¬ ((65536 : Int) < (zs.length : Int)) := by omega
  have hbig2 : (zs.length : Int) ≤ 65536 := by omega
  clear hr hl hi hz0 hz1 hz2 hi' hz0' hz1' hz2'
  go_enter Try.func8, Try.ntmps8
  go_upto_region 6 with (first | (go_at_call 18; refine HNEW.out.mono ?_; rintro e w0 ⟨b, g, rfl, hr0, hc, hb, hg⟩; have HR0 : Hid (RSt w0 b g zs ⟨0, false⟩) := Lib.hid hr0; have HC0 : Hid (Chg [b] w0 w0) := Lib.hid (Chg.refl _ _); have HCN := Lib.hid hc; have HBG := Lib.hid (show b ≥ W.heap.size + 1 + 1 ∧ g ≥ W.heap.size + 1 + 1 from ⟨by simpa using hb, by simpa using hg⟩); clear hr0 hc hb hg) | (go_at_call 19; (with_reducible refine (U8_st b g zs _ _ HR0.out).mono ?_); rintro e w1 ⟨xa, s1, rfl, HX1, hr, hc⟩; have HR1 := Lib.hid hr; have HC1 := Lib.hid (HC0.out.trans hc); clear hr hc) | (go_at_call 19; (with_reducible refine (U8_st b g zs _ _ HR1.out).mono ?_); rintro e w2 ⟨xc, s2, rfl, HX2, hr, hc⟩; have HR2 := Lib.hid hr; have HC2 := Lib.hid (HC1.out.trans hc); clear hr hc) | (go_at_call 19; (with_reducible refine (U8_st b g zs _ _ HR2.out).mono ?_); rintro e w3 ⟨xd, s3, rfl, HX3, hr, hc⟩; have HR3 := Lib.hid hr; have HC3 := Lib.hid (HC2.out.trans hc); clear hr hc))
  have HBR0 := Lib.hid (HBR00.out.keep HCN.out (by simp))
  have HBN0 := Lib.hid (HBN00.out.keep HCN.out (by simp))
  have HX3c : Hid (s3 = rdS zs 1 (rdS zs 1 (rdS zs 1 ⟨0, false⟩))) := Lib.hid (by rw [HX3.out.1.2, HX2.out.1.2, HX1.out.1.2])
  have HVV : Hid (xa = rdV zs 1 ⟨0, false⟩ ∧ xc = rdV zs 1 (rdS zs 1 ⟨0, false⟩) ∧ xd = rdV zs 1 (rdS zs 1 (rdS zs 1 ⟨0, false⟩))) := Lib.hid ⟨HX1.out.1.1, by rw [HX2.out.1.1, HX1.out.1.2], by rw [HX3.out.1.1, HX2.out.1.2, HX1.out.1.2]⟩
  obtain ⟨BM, hBM⟩ : ∃ BM, decide (s3.bad = false ∧ ¬ (xa = 67 ∧ xc = 88 ∧ xd = 1)) = BM := ⟨_, rfl⟩
  have HBM := Lib.hid hBM
  clear hBM hbig hbig2
  go_cut [42] from 28 to 42 (fun cv wc => cv = .bool BM ∧ w3 = wc)
  case first =>
    cases hb3 : s3.bad
    · have HB3 := Lib.hid hb3
      clear hb3
      by_cases h1 : xa = 67
      · have h1b : (xa == 67) = true := by simpa using h1
        have h1c : (xa != 67) = false := by simpa using h1
        have H1 := Lib.hid h1
        clear h1
        by_cases h2 : xc = 88
        · have h2b : (xc == 88) = true := by simpa using h2
          have h2c : (xc != 88) = false := by simpa using h2
          have H2 := Lib.hid h2
          clear h2
          by_cases h3 : xd = 1
          · have h3b : (xd == 1) = true := by simpa using h3
            have h3c : (xd != 1) = false := by simpa using h3
            obtain rfl : false = BM := by rw [← HBM.out, H1.out, H2.out, h3]; simp
            clear h3
            go_wp2_with (go_at_call 20; (with_reducible refine (Err_st b g zs s3 _ HR3.out).mono ?_); rintro e wq ⟨rfl, rfl⟩; rw [HB3.out])
            go_meet
            case rel => exact ⟨rfl, rfl⟩
          · have h3b : (xd == 1) = false := by simpa using h3
            have h3c : (xd != 1) = true := by simpa using h3
            obtain rfl : true = BM := by rw [← HBM.out, HB3.out]; simp [h3]
            go_wp2_with (go_at_call 20; (with_reducible refine (Err_st b g zs s3 _ HR3.out).mono ?_); rintro e wq ⟨rfl, rfl⟩; rw [HB3.out])
            go_meet
            case rel => exact ⟨rfl, rfl⟩
        · have h2b : (xc == 88) = false := by simpa using h2
          have h2c : (xc != 88) = true := by simpa using h2
          obtain rfl : true = BM := by rw [← HBM.out, HB3.out]; simp [h2]
          go_wp2_with (go_at_call 20; (with_reducible refine (Err_st b g zs s3 _ HR3.out).mono ?_); rintro e wq ⟨rfl, rfl⟩; rw [HB3.out])
          go_meet
          case rel => exact ⟨rfl, rfl⟩
      · have h1b : (xa == 67) = false := by simpa using h1
        have h1c : (xa != 67) = true := by simpa using h1
        obtain rfl : true = BM := by rw [← HBM.out, HB3.out]; simp [h1]
        go_wp2_with (go_at_call 20; (with_reducible refine (Err_st b g zs s3 _ HR3.out).mono ?_); rintro e wq ⟨rfl, rfl⟩; rw [HB3.out])
        go_meet
        case rel => exact ⟨rfl, rfl⟩
    · have HB3 := Lib.hid hb3
      obtain rfl : false = BM := by rw [← HBM.out, hb3]; simp
      clear hb3
      go_wp2_with (go_at_call 20; (with_reducible refine (Err_st b g zs s3 _ HR3.out).mono ?_); rintro e wq ⟨rfl, rfl⟩; rw [HB3.out])
      go_meet
      case rel => exact ⟨rfl, rfl⟩
  case rest =>
  obtain ⟨rfl, rfl⟩ := hcut
  cases BM
  rotate_left
  · have hbm := of_decide_eq_true HBM.out
    have h3l : 3 ≤ zs.length := by
      rcases Nat.lt_or_ge zs.length 3 with h | h
      · have h9 := (head_short h).1; rw [← HX3c.out, hbm.1] at h9; cases h9
      · exact h
    have hmk : marks zs = false := by
      have h9 := (head3 h3l).1
      unfold marks
      refine decide_eq_false fun hh => hbm.2 ?_
      rw [HVV.out.1, HVV.out.2.1, HVV.out.2.2, h9.1, h9.2.1, h9.2.2]
      exact hh
    have HMK := Lib.hid (show 3 ≤ zs.length ∧ marks zs = false from ⟨h3l, hmk⟩)
    have HBR := Lib.hid (HBR0.out.keep HC3.out (by have := HBG.out; simp; omega))
    have HBN := Lib.hid (HBN0.out.keep HC3.out (by have := HBG.out; simp; omega))
    have HCX : Hid (Chg [] W w3) := Lib.hid ((HCA.out.trans HCN.out).into HC3.out (fun y hy => .inr (by simp at hy; have := HBG.out; omega)))
    clear hbm h3l hmk
    go_wp2_with (first | (refine wpList_load_blk rfl 27 (.tmp 5) rfl (W.heap.size + 1) rfl HBN.out _ Try.underlying27 rfl szSystem ?_) | (refine wpList_store_blk rfl 27 (.tmp 2) (.tmp 43) rfl W.heap.size #[.slice none 0 0, .slice none 0 0] rfl rfl HBR.out szSystem rfl (by simp [Value.oneCell']) ?_; intro w9 hb9 hc9; have HB9 := Lib.hid hb9; have HC9 := Lib.hid hc9; clear hb9 hc9))
    refine bodyPost_ret (results_row_tmp2 rfl _ _ W.heap.size 27 #[.slice none 0 0, .slice none 0 0] (0, 0) _ rfl HB9.out Try.underlying27 rfl szSystem) rfl ?_
    have hde : decE zs = 4 ∧ decAt zs = 0 := by unfold decE decAt; rw [if_neg (by have := HL.out; omega), if_pos HMK.out, if_neg (by have := HL.out; omega), if_pos HMK.out]; exact ⟨rfl, rfl⟩
    refine ⟨none, 0, none, 0, [], [], ?_, ⟨?_, ?_, by simp, by simp⟩, ⟨⟨Reads.nil _ _, by simp⟩, by simp⟩, ⟨Reads.nil _ _, by simp⟩, (HCX.out).into HC9.out (fun y hy => .inr (by simp at hy; omega))⟩
    · rw [hde.1, hde.2]; rfl
    · rw [if_neg (by rw [hde.1]; decide)]; rfl
    · rw [if_neg (by rw [hde.1]; decide)]; rfl
  have HPM : Hid (¬ (3 ≤ zs.length ∧ marks zs = false)) := Lib.hid (by
    rintro ⟨h3l, hmk⟩
    have hbm := of_decide_eq_false HBM.out
    obtain ⟨h9, h8, h7⟩ := head3 h3l
    refine hbm ⟨by rw [HX3c.out, h8]; exact h7, fun hh => ?_⟩
    rw [HVV.out.1, HVV.out.2.1, HVV.out.2.2, h9.1, h9.2.1, h9.2.2] at hh
    unfold marks at hmk
    rw [decide_eq_true hh] at hmk
    cases hmk)
  go_wp2_with (first | (go_at_call 19; (with_reducible refine (U8_st b g zs _ _ HR3.out).mono ?_); rintro e w4 ⟨x4, s4, rfl, HX4, hr, hc⟩; have HR4 := Lib.hid hr; have HC4 := Lib.hid (HC3.out.trans hc); (obtain ⟨n1, rfl⟩ : ∃ n : Nat, x4 = (n : Int) := ⟨x4.toNat, (by have := HX4.out; omega)⟩); clear hr hc) | (go_at_call 19; (with_reducible refine (U8_st b g zs _ _ HR4.out).mono ?_); rintro e w5 ⟨x5, s5, rfl, HX5, hr, hc⟩; have HR5 := Lib.hid hr; have HC5 := Lib.hid (HC4.out.trans hc); (obtain ⟨n2, rfl⟩ : ∃ n : Nat, x5 = (n : Int) := ⟨x5.toNat, (by have := HX5.out; omega)⟩); clear hr hc))
  have HBS0 : Hid (Blk (w5.alloc (.cells #[.slice none 0 0, .slice none 0 0] 27)) w5.heap.size #[.slice none 0 0, .slice none 0 0] 27) := Lib.hid (Blk.new w5 _ _)
  have HRS0 : Hid (RSt (w5.alloc (.cells #[.slice none 0 0, .slice none 0 0] 27)) b g zs s5) := Lib.hid (HR5.out.keep (L := []) ((Chg.refl _ _).alloc _) (by simp) (by simp))
  have HNB : Hid (n1 ≤ 255) := Lib.hid (by have := HX4.out; omega)
  obtain ⟨nb1, hnb1⟩ : ∃ q, q = (w5.alloc (.cells #[.slice none 0 0, .slice none 0 0] 27)).heap.size := ⟨_, rfl⟩
  have HN1 := Lib.hid hnb1
  have HNE : Hid (w5.heap.size ≠ b ∧ w5.heap.size ≠ g ∧ b < nb1 ∧ g < nb1 ∧ w5.heap.size < nb1) := Lib.hid (by rw [hnb1]; have h3 := HR5.out.box.lt; have h4 := HR5.out.bytes.lt; simp; omega)
  clear hnb1
  go_loopw [49] (fun i wr => ∃ (m : Nat) (sx : St) (ds : List DT) (ra_ : Option Addr) (rc_ : Nat), m ≤ n1 ∧ i = .int .i64 m ∧ Hid ((ds.map DT.p).length = m ∧ allV (tkV zs) (tkS zs) n1 s5 = ds.map DT.p ++ allV (tkV zs) (tkS zs) (n1 - m) sx ∧ allS (tkS zs) n1 s5 = allS (tkS zs) (n1 - m) sx) ∧ Hid (Blk wr w5.heap.size #[(.slice ra_ ds.length rc_), (.slice none 0 0)] 27) ∧ Hid (OwnTs wr nb1 (.slice ra_ ds.length rc_) ds) ∧ Hid (∀ d ∈ ds, SubT wr nb1 d ∧ ∀ y ∈ NbT d, (Value.slice ra_ ds.length rc_).ownBlock ≠ some y) ∧ Hid (RSt wr b g zs sx) ∧ Hid (Chg [b, w5.heap.size] (w5.alloc (.cells #[.slice none 0 0, .slice none 0 0] 27)) wr)) (fun i _ => n1 - (intOf i).toNat)
  case atStart => exact ⟨0, s5, [], none, 0, Nat.zero_le _, rfl, Lib.hid ⟨rfl, by simp, by simp⟩, HBS0, Lib.hid (World.ownsRow_nil _ _ _ _), Lib.hid (by simp), HRS0, Lib.hid (Chg.refl _ _)⟩
  case round =>
    clear HBS0 HRS0
    obtain ⟨m, sx, ds, ra_, rc_, hm, rfl, HLX, HBT, HOW, HSB, HRS, HJ⟩ := hrel
    obtain ⟨wo, rfl⟩ : ∃ wo : World, wo = wr := ⟨_, rfl⟩
    by_cases hlt : m < n1
    · have HLT := Lib.hid hlt
      have hmn : (m : Int) < (n1 : Int) := by omega
      have hm1000 : (m : Int) < 1000 := by have := HNB.out; omega
      have k8 : IntKind.i64.wrap ((m : Int) + 1) = (m : Int) + 1 := by rw [IntKind.wrap_i64]; omega
      have HNT : Hid (∀ y, (Value.slice ra_ ds.length rc_).ownBlock = some y → nb1 ≤ y ∧ y < wo.heap.size) := Lib.hid (fun y hy => World.ownsRow.lt HOW.out y hy)
      have HTL : Hid (w5.heap.size ∉ (b :: (Value.slice ra_ ds.length rc_).ownBlock.toList)) := Lib.hid (by intro hh; simp only [List.mem_cons, Option.mem_toList] at hh; have h1 := HNE.out; rcases hh with hh | hh; exact h1.1 hh; have h2 := HNT.out _ hh; omega)
      have eF := HBT.out.cell (o := 0) rfl
      have KEEP := Lib.hid (fun (V : World) (h : Chg (b :: (Value.slice ra_ ds.length rc_).ownBlock.toList) wo V) => (⟨h.keep eF HTL.out, Lib.hid h⟩ : (fun V : World => V.cell? ⟨w5.heap.size, 0, none⟩ = some (.slice ra_ ds.length rc_) ∧ Hid (Chg (b :: (Value.slice ra_ ds.length rc_).ownBlock.toList) wo V)) V))
      clear eF hm hlt
      go_upto_region 12 with fail
      have HD : Hid (Chg [b] wo wo.drew) := Lib.hid (Chg.refl _ _).drew
      have hHeld : (fun V : World => V.cell? ⟨w5.heap.size, 0, none⟩ = some (.slice ra_ ds.length rc_) ∧ Hid (Chg (b :: (Value.slice ra_ ds.length rc_).ownBlock.toList) wo V)) wo.drew := KEEP.out _ (HD.out.mono (by simp))
      refine wp_region_planT (fun V : World => V.cell? ⟨w5.heap.size, 0, none⟩ = some (.slice ra_ ds.length rc_) ∧ Hid (Chg (b :: (Value.slice ra_ ds.length rc_).ownBlock.toList) wo V)) 7 [(0, true, some 51), (1, true, some 52), (2, true, some 53), (3, false, some 54), (4, false, some 55), (5, false, some 56), (6, true, some 57)] (by kernel_rfl) (by kernel_rfl) (by kernel_rfl) (by kernel_rfl) (by kernel_rfl) (fun d c a v w h => by cases d <;> exact h) hHeld ?_
      clear hHeld
      (repeat (refine planT_read (v := ?_) rfl rfl ?_ ?_ ?_; rotate_left; (focus rfl); (focus (intro u hSw; (try dsimp only at hSw); go_simp; (try with_reducible rfl); done)); ((try dsimp only); (try simp only [Act.put, List.setIfInBounds_toArray, List.set_cons_zero, List.set_cons_succ]))))
      refine planT_do rfl rfl ?_ (fun K hK => ?_)
      · rfl
      go_simp
      go_wp2_with (go_at_call 21; refine (readTask_any b g zs sx wo.drew (HRS.out.keep (L := []) (Chg.refl _ _).drew (by simp) (by simp))).mono ?_; rintro e wa ⟨kind, prio, period, offset, deadline, own, code, qa, qc, rfl, hv, hoc, hr, hc⟩; have HSN : Hid (SubT wa wo.heap.size (⟨⟨kind, prio, period, offset, deadline, own, qa, code.length, qc⟩, code⟩ : DT)) := Lib.hid ⟨hoc, hv.2.2.1, hv.2.1, hv.2.2.2⟩; have HV := Lib.hid hv.1; have HRY := Lib.hid hr; have HCY : Hid (Chg [b] wo wa) := Lib.hid (HD.out.trans hc); clear hr hc hoc hv)
      refine hK.out _ _ (KEEP.out _ (HCY.out.mono (by simp))) (fun _ => ?_)
      clear hK K
      ((try dsimp only); (try simp only [Act.put, List.setIfInBounds_toArray, List.set_cons_zero, List.set_cons_succ]))
      refine planT_do rfl rfl ?_ (fun K hK => ?_)
      · rfl
      go_simp
      refine hK.out _ _ (KEEP.out _ ((HCY.out.alloc _).mono (by simp))) (fun _ => ?_)
      clear hK K
      ((try dsimp only); (try simp only [Act.put, List.setIfInBounds_toArray, List.set_cons_zero, List.set_cons_succ]))
      refine planT_do rfl rfl ?_ (fun K hK => ?_)
      · rfl
      have HOY : Hid (OwnTs (wa.alloc (.cells #[.int .i64 kind, .int .i64 prio, .int .i64 period, .int .i64 offset, .int .i64 deadline, .int .i64 own, .slice qa code.length qc] 41)) nb1 (.slice ra_ ds.length rc_) ds) := Lib.hid (mem.own_chg HOW.out (HCY.out.alloc _) (fun y hy => by have := HNT.out y hy; have := HNE.out; simp; omega))
      have HBS : Hid (nb1 ≤ (wa.alloc (.cells #[.int .i64 kind, .int .i64 prio, .int .i64 period, .int .i64 offset, .int .i64 deadline, .int .i64 own, .slice qa code.length qc] 41)).heap.size) := Lib.hid (Nat.le_trans (Nat.le_of_eq HN1.out) (Nat.le_trans HJ.out.size (HCY.out.alloc _).size))
      have HLB : Hid (ds.length ≤ 1000) := Lib.hid (by have := HLX.out.1; have h9 := HLT.out; rw [List.length_map] at this; have h8 := HNB.out; omega)
      refine wp_append_row (o := ⟨some 56, _, _, _, _, _⟩) (.tmp 52) (.tmp 55) 24 rfl nb1 41 _ (.agg #[.int .i64 0, .int .i64 0, .int .i64 0, .int .i64 0, .int .i64 0, .int .i64 0, .slice none 0 0]) 7 72 Try.underlying24 HI1.out.1 HI1.out.2.1 HI1.out.2.2.1 HI1.out.2.2.2 rfl (by decide) _ _ _ rfl HOY.out wa.heap.size (#[.int .i64 kind, .int .i64 prio, .int .i64 period, .int .i64 offset, .int .i64 deadline, .int .i64 own, .slice qa code.length qc]).toList rfl rfl (fun j u hu => (Blk.new wa #[.int .i64 kind, .int .i64 prio, .int .i64 period, .int .i64 offset, .int .i64 deadline, .int .i64 own, .slice qa code.length qc] 41).cell (by rw [← Array.getElem?_toList]; exact hu)) (by intro u hu; simp at hu; rcases hu with rfl | rfl | rfl | rfl | rfl | rfl | rfl <;> rfl) (by have := HLB.out; unfold maxLen; omega) (by have := HLB.out; omega) HBS.out ?_
      intro v5 wz ho5 hg5 hb5
      have HO5 : Hid (OwnTs wz nb1 v5 (ds ++ [(⟨⟨kind, prio, period, offset, deadline, own, qa, code.length, qc⟩, code⟩ : DT)])) := Lib.hid (OwnTs.add ho5)
      have HC5 : Hid (Chg [b, w5.heap.size] (w5.alloc (.cells #[.slice none 0 0, .slice none 0 0] 27)) wz) := Lib.hid (((HJ.out.into (L := [b]) HCY.out (fun y hy => .inl (by simp at hy; simp [hy]))).alloc _).grown hg5 (fun y hy => .inr (by have h8 := (World.ownsRow.lt HOY.out y hy).1; rw [HN1.out] at h8; exact h8)))
      have HCT : Hid (Chg (b :: (Value.slice ra_ ds.length rc_).ownBlock.toList) wo wz) := Lib.hid (((HCY.out.mono (L' := (b :: (Value.slice ra_ ds.length rc_).ownBlock.toList)) (by simp)).alloc _).grown hg5 (fun y hy => .inl (List.mem_cons_of_mem _ (Option.mem_toList.2 hy))))
      have HCG : Hid (Chg (Value.slice ra_ ds.length rc_).ownBlock.toList wa wz) := Lib.hid (((Chg.refl _ wa).alloc _).grown hg5 (fun y hy => .inl (Option.mem_toList.2 hy)))
      have HB5 : Hid (Blk wz w5.heap.size #[(.slice ra_ ds.length rc_), (.slice none 0 0)] 27) := Lib.hid (HBT.out.keep HCT.out HTL.out)
      have HR5 : Hid (RSt wz b g zs (tkS zs sx)) := Lib.hid (HRY.out.keep HCG.out (by intro hh; simp only [Option.mem_toList] at hh; have h1 := HNE.out; have h2 := HNT.out _ hh; omega) (by intro hh; simp only [Option.mem_toList] at hh; have h1 := HNE.out; have h2 := HNT.out _ hh; omega))
      have HS5 : Hid (∀ d ∈ ds ++ [(⟨⟨kind, prio, period, offset, deadline, own, qa, code.length, qc⟩, code⟩ : DT)], SubT wz nb1 d ∧ ∀ y ∈ NbT d, v5.ownBlock ≠ some y) := Lib.hid (by
        intro d hd
        have hsz := HCY.out.size
        rcases List.mem_append.1 hd with hd | hd
        · obtain ⟨h1, h2⟩ := HSB.out d hd
          refine ⟨h1.keep HCT.out (fun y hy hh => ?_), fun y hy hh => ?_⟩
          · have h3 := h1.lt y hy
            simp only [List.mem_cons, Option.mem_toList] at hh
            have h4 := HNE.out
            rcases hh with hh | hh
            · omega
            · exact h2 y hy hh
          · have h3 := h1.lt y hy
            rcases hb5 y hh with h6 | h6
            · exact h2 y hy h6
            · simp at h6; omega
        · simp only [List.mem_singleton] at hd
          subst hd
          have h1 := HSN.out
          have hbb : nb1 ≤ wo.heap.size := Nat.le_trans (Nat.le_of_eq HN1.out) HJ.out.size
          refine ⟨(h1.keep HCG.out (fun y hy hh => ?_)).mono (by exact hbb), fun y hy hh => ?_⟩
          · have h3 := h1.lt y hy
            simp only [Option.mem_toList] at hh
            have h2 := HNT.out _ hh
            omega
          · have h3 := h1.lt y hy
            rcases hb5 y hh with h6 | h6
            · have h2 := HNT.out _ h6; omega
            · simp at h6; omega)
      obtain ⟨a5, c5, rfl⟩ := own_slice HO5.out (by decide)
      clear ho5 hg5 hb5
      refine hK.out _ _ (KEEP.out _ HCT.out) (fun _ => ?_)
      clear hK K
      ((try dsimp only); (try simp only [Act.put, List.setIfInBounds_toArray, List.set_cons_zero, List.set_cons_succ]))
      (repeat (refine planT_read (v := ?_) rfl rfl ?_ ?_ ?_; rotate_left; (focus rfl); (focus (intro u hSw; (try dsimp only at hSw); go_simp; (try with_reducible rfl); done)); ((try dsimp only); (try simp only [Act.put, List.setIfInBounds_toArray, List.set_cons_zero, List.set_cons_succ]))))
      have f5 := HB5.out.free 0
      have e5 := HB5.out.cell (o := 0) rfl
      refine planT_last rfl ?_ (fun K hK => ?_)
      · rfl
      go_simp
      refine hK.out _ _ ?_
      clear hK K f5 e5 KEEP
      ((try dsimp only); (try simp only [Act.put, List.setIfInBounds_toArray, List.set_cons_zero, List.set_cons_succ]))
      have HB6 : Hid (Blk (wz.setCell ⟨w5.heap.size, 0, none⟩ (.slice a5 (ds.length + 1) c5)) w5.heap.size #[(.slice a5 (ds ++ [(⟨⟨kind, prio, period, offset, deadline, own, qa, code.length, qc⟩, code⟩ : DT)]).length c5), (.slice none 0 0)] 27) := Lib.hid (by have h9 := HB5.out.set 0 (.slice a5 (ds.length + 1) c5); simp only [List.setIfInBounds_toArray, List.set_cons_zero, List.set_cons_succ] at h9; rw [show (ds ++ [(⟨⟨kind, prio, period, offset, deadline, own, qa, code.length, qc⟩, code⟩ : DT)]).length = ds.length + 1 by simp]; exact h9)
      have HC6 : Hid (Chg [w5.heap.size] wz (wz.setCell ⟨w5.heap.size, 0, none⟩ (.slice a5 (ds.length + 1) c5))) := Lib.hid ((Chg.refl _ _).setCell (.inl (by simp)) _)
      have HO6 : Hid (OwnTs (wz.setCell ⟨w5.heap.size, 0, none⟩ (.slice a5 (ds.length + 1) c5)) nb1 (.slice a5 (ds ++ [(⟨⟨kind, prio, period, offset, deadline, own, qa, code.length, qc⟩, code⟩ : DT)]).length c5) (ds ++ [(⟨⟨kind, prio, period, offset, deadline, own, qa, code.length, qc⟩, code⟩ : DT)])) := Lib.hid (mem.own_chg HO5.out HC6.out (fun y hy => by have h8 := (World.ownsRow.lt HO5.out y hy).1; have h7 := HNE.out; simp; omega))
      have HR6 := Lib.hid (HR5.out.keep HC6.out (by simp; exact fun h => HNE.out.1 h.symm) (by simp; exact fun h => HNE.out.2.1 h.symm))
      have HS6 : Hid (∀ d ∈ ds ++ [(⟨⟨kind, prio, period, offset, deadline, own, qa, code.length, qc⟩, code⟩ : DT)], SubT (wz.setCell ⟨w5.heap.size, 0, none⟩ (.slice a5 (ds.length + 1) c5)) nb1 d ∧ ∀ y ∈ NbT d, (Value.slice a5 (ds ++ [(⟨⟨kind, prio, period, offset, deadline, own, qa, code.length, qc⟩, code⟩ : DT)]).length c5).ownBlock ≠ some y) := Lib.hid (fun d hd => ⟨(HS5.out d hd).1.keep HC6.out (fun y hy => by have h3 := (HS5.out d hd).1.lt y hy; have h7 := HNE.out; simp; omega), (HS5.out d hd).2⟩)
      have HC7 := Lib.hid (HC5.out.into HC6.out (fun y hy => .inl (by simp at hy; simp [hy])))
      go_wp2_with fail
      have hltj := HLT.out
      go_roundw
      case rel => exact ⟨m + 1, tkS zs sx, ds ++ [(⟨⟨kind, prio, period, offset, deadline, own, qa, code.length, qc⟩, code⟩ : DT)], a5, c5, by omega, by go_num, Lib.hid (by rw [List.map_append]; exact all_step HLX.out HV.out HLT.out), HB6, HO6, HS6, HR6, HC7⟩
      case measure => simp [intOf]; omega
    · obtain rfl : n1 = m := by omega
      clear hlt hm
      have HLR : Hid ((ds.map DT.p).length = n1 ∧ allV (tkV zs) (tkS zs) n1 s5 = ds.map DT.p ∧ allS (tkS zs) n1 s5 = sx) := Lib.hid (by have h9 := HLX.out; rw [Nat.sub_self] at h9; exact ⟨h9.1, by rw [h9.2.1]; simp [allV], by rw [h9.2.2]; rfl⟩)
      have HC8 : Hid (Chg [b] w0 wo) := Lib.hid ((HC5.out.alloc _).into HJ.out (fun y hy => by simp at hy; rcases hy with rfl | rfl; exact .inl (by simp); right; exact HC5.out.size))
      obtain ⟨wp, rfl⟩ : ∃ wp : World, wp = wo := ⟨_, rfl⟩
      obtain ⟨su, rfl⟩ : ∃ su : St, su = sx := ⟨_, rfl⟩
      obtain ⟨ts, rfl⟩ : ∃ ts : List DT, ts = ds := ⟨_, rfl⟩
      obtain ⟨ua, rfl⟩ : ∃ ua, ua = ra_ := ⟨_, rfl⟩
      obtain ⟨uc, rfl⟩ : ∃ uc, uc = rc_ := ⟨_, rfl⟩
      have HOT := HOW
      have HST := HSB
      have HBS1 := HBT
      have HRS1 := HRS
      have HNE1 := HNE
      have HNB1 := HNB
      clear HNB HNE HLX HOW HSB HBT HRS HJ
      obtain ⟨nb2, hnb2⟩ : ∃ q, q = wp.heap.size := ⟨_, rfl⟩
      have HNB : Hid (n2 ≤ 255) := Lib.hid (by have := HX5.out; omega)
      have HNE : Hid (w5.heap.size ≠ b ∧ w5.heap.size ≠ g ∧ b < nb2 ∧ g < nb2 ∧ w5.heap.size < nb2) := Lib.hid ⟨HNE1.out.1, HNE1.out.2.1, by rw [hnb2]; exact HRS1.out.box.lt, by rw [hnb2]; exact HRS1.out.bytes.lt, by rw [hnb2]; exact HBS1.out.lt⟩
      have HN2 : Hid (nb2 = wp.heap.size) := Lib.hid hnb2
      clear hnb2
      go_wp2_with fail
      go_loopw [60] (fun i wr => ∃ (m : Nat) (sx : St) (ds : List DO) (ra_ : Option Addr) (rc_ : Nat), m ≤ n2 ∧ i = .int .i64 m ∧ Hid ((ds.map DO.p).length = m ∧ allV (obA zs) (obAS zs) n2 su = ds.map DO.p ++ allV (obA zs) (obAS zs) (n2 - m) sx ∧ allS (obAS zs) n2 su = allS (obAS zs) (n2 - m) sx) ∧ Hid (Blk wr w5.heap.size #[.slice ua ts.length uc, (.slice ra_ ds.length rc_)] 27) ∧ Hid (OwnOs wr nb2 (.slice ra_ ds.length rc_) ds) ∧ Hid (∀ d ∈ ds, SubO wr nb2 d ∧ ∀ y ∈ NbO d, (Value.slice ra_ ds.length rc_).ownBlock ≠ some y) ∧ Hid (RSt wr b g zs sx) ∧ Hid (Chg [b, w5.heap.size] wp wr)) (fun i _ => n2 - (intOf i).toNat)
      case atStart => exact ⟨0, su, [], none, 0, Nat.zero_le _, rfl, Lib.hid ⟨rfl, by simp, by simp⟩, HBS1, Lib.hid (World.ownsRow_nil _ _ _ _), Lib.hid (by simp), HRS1, Lib.hid (Chg.refl _ _)⟩
      case round =>
        clear HBS1 HRS1
        obtain ⟨m, sx, ds, ra_, rc_, hm, rfl, HLX, HBT, HOW, HSB, HRS, HJ⟩ := hrel
        obtain ⟨wo, rfl⟩ : ∃ wo : World, wo = wr := ⟨_, rfl⟩
        by_cases hlt : m < n2
        · have HLT := Lib.hid hlt
          have hmn : (m : Int) < (n2 : Int) := by omega
          have hm1000 : (m : Int) < 1000 := by have := HNB.out; omega
          have k8 : IntKind.i64.wrap ((m : Int) + 1) = (m : Int) + 1 := by rw [IntKind.wrap_i64]; omega
          have HNT : Hid (∀ y, (Value.slice ra_ ds.length rc_).ownBlock = some y → nb2 ≤ y ∧ y < wo.heap.size) := Lib.hid (fun y hy => World.ownsRow.lt HOW.out y hy)
          have HTL : Hid (w5.heap.size ∉ (b :: (Value.slice ra_ ds.length rc_).ownBlock.toList)) := Lib.hid (by intro hh; simp only [List.mem_cons, Option.mem_toList] at hh; have h1 := HNE.out; rcases hh with hh | hh; exact h1.1 hh; have h2 := HNT.out _ hh; omega)
          have eF := HBT.out.cell (o := 1) rfl
          have KEEP := Lib.hid (fun (V : World) (h : Chg (b :: (Value.slice ra_ ds.length rc_).ownBlock.toList) wo V) => (⟨h.keep eF HTL.out, Lib.hid h⟩ : (fun V : World => V.cell? ⟨w5.heap.size, 1, none⟩ = some (.slice ra_ ds.length rc_) ∧ Hid (Chg (b :: (Value.slice ra_ ds.length rc_).ownBlock.toList) wo V)) V))
          clear eF hm hlt
          go_upto_region 16 with fail
          have HD : Hid (Chg [b] wo wo.drew) := Lib.hid (Chg.refl _ _).drew
          have hHeld : (fun V : World => V.cell? ⟨w5.heap.size, 1, none⟩ = some (.slice ra_ ds.length rc_) ∧ Hid (Chg (b :: (Value.slice ra_ ds.length rc_).ownBlock.toList) wo V)) wo.drew := KEEP.out _ (HD.out.mono (by simp))
          refine wp_region_planT (fun V : World => V.cell? ⟨w5.heap.size, 1, none⟩ = some (.slice ra_ ds.length rc_) ∧ Hid (Chg (b :: (Value.slice ra_ ds.length rc_).ownBlock.toList) wo V)) 7 [(0, true, some 62), (1, true, some 63), (2, true, some 64), (3, false, some 65), (4, false, some 66), (5, false, some 67), (6, true, some 68)] (by kernel_rfl) (by kernel_rfl) (by kernel_rfl) (by kernel_rfl) (by kernel_rfl) (fun d c a v w h => by cases d <;> exact h) hHeld ?_
          clear hHeld
          (repeat (refine planT_read (v := ?_) rfl rfl ?_ ?_ ?_; rotate_left; (focus rfl); (focus (intro u hSw; (try dsimp only at hSw); go_simp; (try with_reducible rfl); done)); ((try dsimp only); (try simp only [Act.put, List.setIfInBounds_toArray, List.set_cons_zero, List.set_cons_succ]))))
          refine planT_do rfl rfl ?_ (fun K hK => ?_)
          · rfl
          go_simp
          go_wp2_with (go_at_call 22; refine (readObject_any b g zs sx wo.drew (HRS.out.keep (L := []) (Chg.refl _ _).drew (by simp) (by simp))).mono ?_; rintro e wa ⟨k, w, s, c, st, wri, ini, rds, ia, ic, qa, qc, rfl, hv, hoi, hoc, hr, hc⟩; have HSN : Hid (SubO wa wo.heap.size (⟨⟨k, w, s, c, st, ia, ini.length, ic, wri, qa, rds.length, qc⟩, ini, rds⟩ : DO)) := Lib.hid ⟨⟨hoi, hoc⟩, hv.2⟩; have HV := Lib.hid hv.1; have HRY := Lib.hid hr; have HCY : Hid (Chg [b] wo wa) := Lib.hid (HD.out.trans hc); clear hr hc hoc hv)
          refine hK.out _ _ (KEEP.out _ (HCY.out.mono (by simp))) (fun _ => ?_)
          clear hK K
          ((try dsimp only); (try simp only [Act.put, List.setIfInBounds_toArray, List.set_cons_zero, List.set_cons_succ]))
          refine planT_do rfl rfl ?_ (fun K hK => ?_)
          · rfl
          go_simp
          refine hK.out _ _ (KEEP.out _ ((HCY.out.alloc _).mono (by simp))) (fun _ => ?_)
          clear hK K
          ((try dsimp only); (try simp only [Act.put, List.setIfInBounds_toArray, List.set_cons_zero, List.set_cons_succ]))
          refine planT_do rfl rfl ?_ (fun K hK => ?_)
          · rfl
          have HOY : Hid (OwnOs (wa.alloc (.cells #[.int .i64 k, .int .i64 w, .int .i64 s, .int .i64 c, .int .u32 st, .slice ia ini.length ic, .int .i64 wri, .slice qa rds.length qc] 53)) nb2 (.slice ra_ ds.length rc_) ds) := Lib.hid (mem.own_chg HOW.out (HCY.out.alloc _) (fun y hy => by have := HNT.out y hy; have := HNE.out; simp; omega))
          have HBS : Hid (nb2 ≤ (wa.alloc (.cells #[.int .i64 k, .int .i64 w, .int .i64 s, .int .i64 c, .int .u32 st, .slice ia ini.length ic, .int .i64 wri, .slice qa rds.length qc] 53)).heap.size) := Lib.hid (Nat.le_trans (Nat.le_of_eq HN2.out) (Nat.le_trans HJ.out.size (HCY.out.alloc _).size))
          have HLB : Hid (ds.length ≤ 1000) := Lib.hid (by have := HLX.out.1; have h9 := HLT.out; rw [List.length_map] at this; have h8 := HNB.out; omega)
          refine wp_append_row (o := ⟨some 67, _, _, _, _, _⟩) (.tmp 63) (.tmp 66) 25 rfl nb2 53 _ (.agg #[.int .i64 0, .int .i64 0, .int .i64 0, .int .i64 0, .int .u32 0, .slice none 0 0, .int .i64 0, .slice none 0 0]) 8 96 Try.underlying25 HI2.out.1 HI2.out.2.1 HI2.out.2.2.1 HI2.out.2.2.2 rfl (by decide) _ _ _ rfl HOY.out wa.heap.size (#[.int .i64 k, .int .i64 w, .int .i64 s, .int .i64 c, .int .u32 st, .slice ia ini.length ic, .int .i64 wri, .slice qa rds.length qc]).toList rfl rfl (fun j u hu => (Blk.new wa #[.int .i64 k, .int .i64 w, .int .i64 s, .int .i64 c, .int .u32 st, .slice ia ini.length ic, .int .i64 wri, .slice qa rds.length qc] 53).cell (by rw [← Array.getElem?_toList]; exact hu)) (by intro u hu; simp at hu; rcases hu with rfl | rfl | rfl | rfl | rfl | rfl | rfl | rfl <;> rfl) (by have := HLB.out; unfold maxLen; omega) (by have := HLB.out; omega) HBS.out ?_
          intro v5 wz ho5 hg5 hb5
          have HO5 : Hid (OwnOs wz nb2 v5 (ds ++ [(⟨⟨k, w, s, c, st, ia, ini.length, ic, wri, qa, rds.length, qc⟩, ini, rds⟩ : DO)])) := Lib.hid (OwnOs.add ho5)
          have HC5 : Hid (Chg [b, w5.heap.size] wp wz) := Lib.hid (((HJ.out.into (L := [b]) HCY.out (fun y hy => .inl (by simp at hy; simp [hy]))).alloc _).grown hg5 (fun y hy => .inr (by have h8 := (World.ownsRow.lt HOY.out y hy).1; rw [HN2.out] at h8; exact h8)))
          have HCT : Hid (Chg (b :: (Value.slice ra_ ds.length rc_).ownBlock.toList) wo wz) := Lib.hid (((HCY.out.mono (L' := (b :: (Value.slice ra_ ds.length rc_).ownBlock.toList)) (by simp)).alloc _).grown hg5 (fun y hy => .inl (List.mem_cons_of_mem _ (Option.mem_toList.2 hy))))
          have HCG : Hid (Chg (Value.slice ra_ ds.length rc_).ownBlock.toList wa wz) := Lib.hid (((Chg.refl _ wa).alloc _).grown hg5 (fun y hy => .inl (Option.mem_toList.2 hy)))
          have HB5 : Hid (Blk wz w5.heap.size #[.slice ua ts.length uc, (.slice ra_ ds.length rc_)] 27) := Lib.hid (HBT.out.keep HCT.out HTL.out)
          have HR5 : Hid (RSt wz b g zs (obAS zs sx)) := Lib.hid (HRY.out.keep HCG.out (by intro hh; simp only [Option.mem_toList] at hh; have h1 := HNE.out; have h2 := HNT.out _ hh; omega) (by intro hh; simp only [Option.mem_toList] at hh; have h1 := HNE.out; have h2 := HNT.out _ hh; omega))
          have HS5 : Hid (∀ d ∈ ds ++ [(⟨⟨k, w, s, c, st, ia, ini.length, ic, wri, qa, rds.length, qc⟩, ini, rds⟩ : DO)], SubO wz nb2 d ∧ ∀ y ∈ NbO d, v5.ownBlock ≠ some y) := Lib.hid (by
            intro d hd
            have hsz := HCY.out.size
            rcases List.mem_append.1 hd with hd | hd
            · obtain ⟨h1, h2⟩ := HSB.out d hd
              refine ⟨h1.keep HCT.out (fun y hy hh => ?_), fun y hy hh => ?_⟩
              · have h3 := h1.lt y hy
                simp only [List.mem_cons, Option.mem_toList] at hh
                have h4 := HNE.out
                rcases hh with hh | hh
                · omega
                · exact h2 y hy hh
              · have h3 := h1.lt y hy
                rcases hb5 y hh with h6 | h6
                · exact h2 y hy h6
                · simp at h6; omega
            · simp only [List.mem_singleton] at hd
              subst hd
              have h1 := HSN.out
              have hbb : nb2 ≤ wo.heap.size := Nat.le_trans (Nat.le_of_eq HN2.out) HJ.out.size
              refine ⟨(h1.keep HCG.out (fun y hy hh => ?_)).mono (by exact hbb), fun y hy hh => ?_⟩
              · have h3 := h1.lt y hy
                simp only [Option.mem_toList] at hh
                have h2 := HNT.out _ hh
                omega
              · have h3 := h1.lt y hy
                rcases hb5 y hh with h6 | h6
                · have h2 := HNT.out _ h6; omega
                · simp at h6; omega)
          obtain ⟨a5, c5, rfl⟩ := own_slice HO5.out (by decide)
          clear ho5 hg5 hb5
          refine hK.out _ _ (KEEP.out _ HCT.out) (fun _ => ?_)
          clear hK K
          ((try dsimp only); (try simp only [Act.put, List.setIfInBounds_toArray, List.set_cons_zero, List.set_cons_succ]))
          (repeat (refine planT_read (v := ?_) rfl rfl ?_ ?_ ?_; rotate_left; (focus rfl); (focus (intro u hSw; (try dsimp only at hSw); go_simp; (try with_reducible rfl); done)); ((try dsimp only); (try simp only [Act.put, List.setIfInBounds_toArray, List.set_cons_zero, List.set_cons_succ]))))
          have f5 := HB5.out.free 1
          have e5 := HB5.out.cell (o := 1) rfl
          refine planT_last rfl ?_ (fun K hK => ?_)
          · rfl
          go_simp
          refine hK.out _ _ ?_
          clear hK K f5 e5 KEEP
          ((try dsimp only); (try simp only [Act.put, List.setIfInBounds_toArray, List.set_cons_zero, List.set_cons_succ]))
          have HB6 : Hid (Blk (wz.setCell ⟨w5.heap.size, 1, none⟩ (.slice a5 (ds.length + 1) c5)) w5.heap.size #[.slice ua ts.length uc, (.slice a5 (ds ++ [(⟨⟨k, w, s, c, st, ia, ini.length, ic, wri, qa, rds.length, qc⟩, ini, rds⟩ : DO)]).length c5)] 27) := Lib.hid (by have h9 := HB5.out.set 1 (.slice a5 (ds.length + 1) c5); simp only [List.setIfInBounds_toArray, List.set_cons_zero, List.set_cons_succ] at h9; rw [show (ds ++ [(⟨⟨k, w, s, c, st, ia, ini.length, ic, wri, qa, rds.length, qc⟩, ini, rds⟩ : DO)]).length = ds.length + 1 by simp]; exact h9)
          have HC6 : Hid (Chg [w5.heap.size] wz (wz.setCell ⟨w5.heap.size, 1, none⟩ (.slice a5 (ds.length + 1) c5))) := Lib.hid ((Chg.refl _ _).setCell (.inl (by simp)) _)
          have HO6 : Hid (OwnOs (wz.setCell ⟨w5.heap.size, 1, none⟩ (.slice a5 (ds.length + 1) c5)) nb2 (.slice a5 (ds ++ [(⟨⟨k, w, s, c, st, ia, ini.length, ic, wri, qa, rds.length, qc⟩, ini, rds⟩ : DO)]).length c5) (ds ++ [(⟨⟨k, w, s, c, st, ia, ini.length, ic, wri, qa, rds.length, qc⟩, ini, rds⟩ : DO)])) := Lib.hid (mem.own_chg HO5.out HC6.out (fun y hy => by have h8 := (World.ownsRow.lt HO5.out y hy).1; have h7 := HNE.out; simp; omega))
          have HR6 := Lib.hid (HR5.out.keep HC6.out (by simp; exact fun h => HNE.out.1 h.symm) (by simp; exact fun h => HNE.out.2.1 h.symm))
          have HS6 : Hid (∀ d ∈ ds ++ [(⟨⟨k, w, s, c, st, ia, ini.length, ic, wri, qa, rds.length, qc⟩, ini, rds⟩ : DO)], SubO (wz.setCell ⟨w5.heap.size, 1, none⟩ (.slice a5 (ds.length + 1) c5)) nb2 d ∧ ∀ y ∈ NbO d, (Value.slice a5 (ds ++ [(⟨⟨k, w, s, c, st, ia, ini.length, ic, wri, qa, rds.length, qc⟩, ini, rds⟩ : DO)]).length c5).ownBlock ≠ some y) := Lib.hid (fun d hd => ⟨(HS5.out d hd).1.keep HC6.out (fun y hy => by have h3 := (HS5.out d hd).1.lt y hy; have h7 := HNE.out; simp; omega), (HS5.out d hd).2⟩)
          have HC7 := Lib.hid (HC5.out.into HC6.out (fun y hy => .inl (by simp at hy; simp [hy])))
          go_wp2_with fail
          have hltj := HLT.out
          go_roundw
          case rel => exact ⟨m + 1, obAS zs sx, ds ++ [(⟨⟨k, w, s, c, st, ia, ini.length, ic, wri, qa, rds.length, qc⟩, ini, rds⟩ : DO)], a5, c5, by omega, by go_num, Lib.hid (by rw [List.map_append]; exact all_step HLX.out HV.out HLT.out), HB6, HO6, HS6, HR6, HC7⟩
          case measure => simp [intOf]; omega
        · obtain rfl : n2 = m := by omega
          clear hlt hm
          have HLO : Hid ((ds.map DO.p).length = n2 ∧ allV (obA zs) (obAS zs) n2 su = ds.map DO.p ∧ allS (obAS zs) n2 su = sx) := Lib.hid (by have h9 := HLX.out; rw [Nat.sub_self] at h9; exact ⟨h9.1, by rw [h9.2.1]; simp [allV], by rw [h9.2.2]; rfl⟩)
          have HCF : Hid (Chg [b] w0 wo) := Lib.hid (HC8.out.into HJ.out (fun y hy => by simp at hy; rcases hy with rfl | rfl; exact .inl (by simp); right; exact HC5.out.size))
          have HPE : Hid (P5 zs n1 n2 s3 s5 ∧ sx = allS (obAS zs) n2 (allS (tkS zs) n1 s5)) := Lib.hid ⟨⟨HX3c.out, HX4.out.1.1, by rw [← HX4.out.1.2]; exact HX5.out.1.1, by have h4 := HX4.out.1.2; have h5 := HX5.out.1.2; rw [h5, h4]⟩, by rw [HLR.out.2.2, HLO.out.2.2]⟩
          have hlen : (zs.length : Int) ≤ 65536 := by have := HL.out; omega
          go_upto_region 20 with (first | (go_at_call 23; (with_reducible refine (Left_st b g zs sx _ HRS.out).mono ?_); rintro e wl ⟨kp, rfl, HK, hr, hq⟩; have HRL := Lib.hid hr; have HRLc := Lib.hid hq; have hkbkp : (kp : Int) ≤ 65536 := (by have h9 := HK.out; have h8 := HL.out; omega); have hsubkp : (zs.length : Int) - ((zs.length : Int) - (kp : Int)) = (kp : Int) := (by omega); clear hr hq) | (go_at_call 24; (with_reducible refine (U16_st b g zs sx _ HRL.out).mono ?_); rintro e wu ⟨x6, sF, rfl, HX6, hr, hc⟩; have HRF := Lib.hid hr; have HCU : Hid (Chg [b] w0 wu) := Lib.hid ((HCF.out.trans (HRLc.out.mono (by simp))).trans hc); have HCWo : Hid (Chg [b] wo wu) := Lib.hid ((HRLc.out.mono (by simp)).trans hc); have HCW : Hid (Chg [b, w5.heap.size] wp wu) := Lib.hid ((HJ.out.trans (HRLc.out.mono (by simp))).trans (hc.mono (by simp))); clear hr hc))
          cases hbF : sF.bad
          rotate_left
          · have HBF := Lib.hid hbF
            have HCX : Hid (Chg [] W wu) := Lib.hid ((HCA.out.trans HCN.out).into HCU.out (fun y hy => .inr (by simp at hy; have := HBG.out; omega)))
            have HBR := Lib.hid (HBR0.out.keep HCU.out (by have := HBG.out; simp; omega))
            have HBN := Lib.hid (HBN0.out.keep HCU.out (by have := HBG.out; simp; omega))
            clear hbF
            go_wp2_with (first | (go_at_call 20; (with_reducible refine (Err_st b g zs sF _ HRF.out).mono ?_); rintro e wq ⟨rfl, rfl⟩; rw [HBF.out]) | (refine wpList_load_blk rfl 27 (.tmp 5) rfl (W.heap.size + 1) rfl HBN.out _ Try.underlying27 rfl szSystem ?_) | (refine wpList_store_blk rfl 27 (.tmp 2) (.tmp 81) rfl W.heap.size #[.slice none 0 0, .slice none 0 0] rfl rfl HBR.out szSystem rfl (by simp [Value.oneCell']) ?_; intro w9 hb9 hc9; have HB9 := Lib.hid hb9; have HC9 := Lib.hid hc9; clear hb9 hc9))
            refine bodyPost_ret (results_row_tmp2 rfl _ _ W.heap.size 27 #[.slice none 0 0, .slice none 0 0] (0, 0) _ rfl HB9.out Try.underlying27 rfl szSystem) rfl ?_
            have hde := dec_bad HL.out HPM.out HPE.out HX6.out.1.2 HBF.out
            refine ⟨none, 0, none, 0, [], [], ?_, ⟨?_, ?_, by simp, by simp⟩, ⟨⟨Reads.nil _ _, by simp⟩, by simp⟩, ⟨Reads.nil _ _, by simp⟩, (HCX.out).into HC9.out (fun y hy => .inr (by simp at hy; omega))⟩
            · rw [hde.1, hde.2]; rfl
            · rw [if_neg (by rw [hde.1]; decide)]; rfl
            · rw [if_neg (by rw [hde.1]; decide)]; rfl
          have HBF := Lib.hid hbF
          have hk2 := dec_good HL.out HPM.out HPE.out HX6.out.1.2 hbF
          have hkp : kp = sx.at_ := HK.out.2 hk2.1
          have HKP : Hid (kp + 2 ≤ zs.length ∧ kp = sx.at_) := Lib.hid ⟨by rw [hkp]; exact hk2.2.1, hkp⟩
          have HG := Lib.hid hk2
          obtain ⟨vs, es, rs, -⟩ := slice_high (P := Try.prog) Try.underlying22 sz5 HRB.out.1 kp (by have := HKP.out; omega)
          have HVS : Hid (ReadsB W vs (zs.take kp)) := Lib.hid ⟨by rw [List.length_take, Nat.min_eq_left (by have := HKP.out; omega), List.map_take]; simpa using rs, fun n hn => HRB.out.2 n (List.mem_of_mem_take hn)⟩
          have HSUM := Lib.hid (fun V (h : Chg [] W V) => Sum_any vs (zs.take kp) V (HVS.out.chg h) (by have := HL.out; rw [List.length_take]; omega))
          obtain ⟨sm, hsm⟩ : ∃ sm, sumM (zs.take kp) = sm := ⟨_, rfl⟩
          rw [hsm] at HSUM
          have HSM := Lib.hid hsm
          have HCX : Hid (Chg [] W wu) := Lib.hid ((HCA.out.trans HCN.out).into HCU.out (fun y hy => .inr (by simp at hy; have := HBG.out; omega)))
          have hkk : (kp : Int) ≤ 65536 := by have := HKP.out; omega
          clear hbF hk2 hkp rs hsm
          by_cases hs : x6 = sm
          rotate_left
          · have hs1 : (x6 == sm) = false := by simpa using hs
            have hs2 : (x6 != sm) = true := by simpa using hs
            have HSS := Lib.hid hs
            have HBR := Lib.hid (HBR0.out.keep HCU.out (by have := HBG.out; simp; omega))
            have HBN := Lib.hid (HBN0.out.keep HCU.out (by have := HBG.out; simp; omega))
            clear hs
            go_wp2_with (first | (go_at_call 16; refine (HSUM.out _ HCX.out).mono ?_; rintro e wm ⟨rfl, hc⟩; have HCX := Lib.hid (HCX.out.trans hc); have HBR := Lib.hid (HBR.out.keep hc (by simp)); have HBN := Lib.hid (HBN.out.keep hc (by simp)); clear hc) | (go_at_call 20; (with_reducible refine (Err_st b g zs sF _ HRF.out).mono ?_); rintro e wq ⟨rfl, rfl⟩; rw [HBF.out]) | (refine wpList_load_blk rfl 27 (.tmp 5) rfl (W.heap.size + 1) rfl HBN.out _ Try.underlying27 rfl szSystem ?_) | (refine wpList_store_blk rfl 27 (.tmp 2) (.tmp 91) rfl W.heap.size #[.slice none 0 0, .slice none 0 0] rfl rfl HBR.out szSystem rfl (by simp [Value.oneCell']) ?_; intro w9 hb9 hc9; have HB9 := Lib.hid hb9; have HC9 := Lib.hid hc9; clear hb9 hc9))
            refine bodyPost_ret (results_row_tmp2 rfl _ _ W.heap.size 27 #[.slice none 0 0, .slice none 0 0] (0, 0) _ rfl HB9.out Try.underlying27 rfl szSystem) rfl ?_
            have hde : decE zs = 4 ∧ decAt zs = (kp : Int) := by have h9 := HG.out.2.2.1; rw [← HKP.out.2] at h9; exact h9 (by rw [HSM.out]; rw [← HX6.out.1.1]; exact HSS.out)
            refine ⟨none, 0, none, 0, [], [], ?_, ⟨?_, ?_, by simp, by simp⟩, ⟨⟨Reads.nil _ _, by simp⟩, by simp⟩, ⟨Reads.nil _ _, by simp⟩, (HCX.out).into HC9.out (fun y hy => .inr (by simp at hy; omega))⟩
            · rw [hde.1, hde.2]; rfl
            · rw [if_neg (by rw [hde.1]; decide)]; rfl
            · rw [if_neg (by rw [hde.1]; decide)]; rfl
          have hs1 : (x6 == sm) = true := by simpa using hs
          have hs2 : (x6 != sm) = false := by simpa using hs
          have HSS := Lib.hid hs
          have HAT : Hid (sF.at_ = kp + 2) := Lib.hid (by have h8 := HX6.out.1.2; have h9 := HBF.out; rw [h8] at h9 ⊢; rw [rd_at h9, HKP.out.2])
          clear hs
          by_cases hm : kp + 2 < zs.length
          · have hde : decE zs = 3 ∧ decAt zs = (kp : Int) + 2 := by
              have h9 := HG.out.2.2.2.1
              rw [← HKP.out.2] at h9
              have h8 := (h9 (by rw [HSM.out, ← HX6.out.1.1]; exact HSS.out)).1 hm
              exact ⟨h8.1, by rw [h8.2]; omega⟩
            have HDE := Lib.hid hde
            have HMM := Lib.hid hm
            have HBR := Lib.hid (HBR0.out.keep HCU.out (by have := HBG.out; simp; omega))
            have HBN := Lib.hid (HBN0.out.keep HCU.out (by have := HBG.out; simp; omega))
            have k9 : IntKind.i64.wrap ((kp : Int) + 2) = (kp : Int) + 2 := by rw [IntKind.wrap_i64]; omega
            clear hm hde
            go_wp2_with (first | (go_at_call 16; refine (HSUM.out _ HCX.out).mono ?_; rintro e wm ⟨rfl, hc⟩; have HM := Lib.hid hc; have HRFm := Lib.hid (HRF.out.keep hc (by simp) (by simp)); clear hc) | (go_at_call 20; (with_reducible refine (Err_st b g zs sF _ HRF.out).mono ?_); rintro e wq ⟨rfl, rfl⟩; rw [HBF.out]) | (go_at_call 23; (with_reducible refine (Left_st b g zs sF _ HRFm.out).mono ?_); rintro e wl2 ⟨kq, rfl, HKQ, hr, hq⟩; have HRQ := Lib.hid hr; have HRQc := Lib.hid hq; have hkbkq : (kq : Int) ≤ 65536 := (by have h9 := HKQ.out; have h8 := HL.out; omega); have hsubkq : (zs.length : Int) - ((zs.length : Int) - (kq : Int)) = (kq : Int) := (by omega); clear hr hq; have hkq : (0 : Int) < (zs.length : Int) - (kq : Int) := (by have h1 := HKQ.out.2 HBF.out; have h2 := HAT.out; have h3 := HMM.out; omega); have HBRq := Lib.hid (HBR.out.keep (HM.out.trans HRQc.out) (by simp)); have HBNq := Lib.hid (HBN.out.keep (HM.out.trans HRQc.out) (by simp))) | (refine wpList_load_blk rfl 27 (.tmp 5) rfl (W.heap.size + 1) rfl HBNq.out _ Try.underlying27 rfl szSystem ?_) | (refine wpList_store_blk rfl 27 (.tmp 2) (.tmp 97) rfl W.heap.size #[.slice none 0 0, .slice none 0 0] rfl rfl HBRq.out szSystem rfl (by simp [Value.oneCell']) ?_; intro w9 hb9 hc9; have HB9 := Lib.hid hb9; have HC9 := Lib.hid hc9; clear hb9 hc9))
            refine bodyPost_ret (results_row_tmp2 rfl _ _ W.heap.size 27 #[.slice none 0 0, .slice none 0 0] (0, 0) _ rfl HB9.out Try.underlying27 rfl szSystem) rfl ?_
            have hde := HDE.out
            refine ⟨none, 0, none, 0, [], [], ?_, ⟨?_, ?_, by simp, by simp⟩, ⟨⟨Reads.nil _ _, by simp⟩, by simp⟩, ⟨Reads.nil _ _, by simp⟩, (((HCX.out.trans HM.out).trans HRQc.out)).into HC9.out (fun y hy => .inr (by simp at hy; omega))⟩
            · rw [hde.1, hde.2]; rfl
            · rw [if_neg (by rw [hde.1]; decide)]; rfl
            · rw [if_neg (by rw [hde.1]; decide)]; rfl
          · have HMM := Lib.hid hm
            have hde : decE zs = 0 ∧ decAt zs = 0 := by
              have h9 := HG.out.2.2.2.1
              rw [← HKP.out.2] at h9
              exact (h9 (by rw [HSM.out, ← HX6.out.1.1]; exact HSS.out)).2 hm
            have HDE := Lib.hid hde
            have HBR := Lib.hid (HBR0.out.keep HCU.out (by have := HBG.out; simp; omega))
            have HBTu := Lib.hid (HBT.out.keep HCWo.out (by simp; exact HNE.out.1))
            clear hm hde
            go_wp2_with (first | (go_at_call 16; refine (HSUM.out _ HCX.out).mono ?_; rintro e wm ⟨rfl, hc⟩; have HM := Lib.hid hc; have HRFm := Lib.hid (HRF.out.keep hc (by simp) (by simp)); clear hc) | (go_at_call 20; (with_reducible refine (Err_st b g zs sF _ HRF.out).mono ?_); rintro e wq ⟨rfl, rfl⟩; rw [HBF.out]) | (go_at_call 23; (with_reducible refine (Left_st b g zs sF _ HRFm.out).mono ?_); rintro e wl2 ⟨kq, rfl, HKQ, hr, hq⟩; have HRQ := Lib.hid hr; have HRQc := Lib.hid hq; have hkbkq : (kq : Int) ≤ 65536 := (by have h9 := HKQ.out; have h8 := HL.out; omega); have hsubkq : (zs.length : Int) - ((zs.length : Int) - (kq : Int)) = (kq : Int) := (by omega); clear hr hq; have hkq : ¬ (0 : Int) < (zs.length : Int) - (kq : Int) := (by have h1 := HKQ.out.2 HBF.out; have h2 := HAT.out; have h3 := HMM.out; omega); have HBRq := Lib.hid (HBR.out.keep (HM.out.trans HRQc.out) (by simp)); have HBTq := Lib.hid (HBTu.out.keep (HM.out.trans HRQc.out) (by simp))) | (refine wpList_load_blk rfl 27 (.tmp 12) rfl w5.heap.size rfl HBTq.out _ Try.underlying27 rfl szSystem ?_) | (refine wpList_store_blk rfl 27 (.tmp 2) (.tmp 100) rfl W.heap.size #[.slice ua ts.length uc, .slice ra_ ds.length rc_] rfl rfl HBRq.out szSystem rfl (by simp [Value.oneCell']) ?_; intro w9 hb9 hc9; have HB9 := Lib.hid hb9; have HC9 := Lib.hid hc9; clear hb9 hc9))
            refine bodyPost_ret (results_row_tmp2 rfl _ _ W.heap.size 27 #[.slice ua ts.length uc, .slice ra_ ds.length rc_] (0, 0) _ rfl HB9.out Try.underlying27 rfl szSystem) rfl ?_
            have HALL : Hid (Chg [b, w5.heap.size, W.heap.size] wp w9) := Lib.hid (((HCW.out.mono (fun y hy => by simp only [List.mem_cons, List.not_mem_nil, or_false] at hy ⊢; rcases hy with h | h; exact .inl h; exact .inr (.inl h))).trans ((HM.out.trans HRQc.out).mono (by simp))).trans (HC9.out.mono (by simp)))
            have HALO : Hid (Chg [b, w5.heap.size, W.heap.size] wo w9) := Lib.hid (((HCWo.out.mono (by simp)).trans ((HM.out.trans HRQc.out).mono (by simp))).trans (HC9.out.mono (by simp)))
            have hw5 : W.heap.size < w5.heap.size := by have h1 := HCA.out.size; have h2 := HCN.out.size; have h3 := HC5.out.size; simp at *; omega
            have HTS : ∀ d ∈ ts, SubT w9 nb1 d := fun d hd => (HST.out d hd).1.keep HALL.out (fun y hy => by have h3 := (HST.out d hd).1.lt y hy; have h7 := HNE1.out; simp; omega)
            have HOS : ∀ d ∈ ds, SubO w9 nb2 d := fun d hd => (HSB.out d hd).1.keep HALO.out (fun y hy => by have h3 := (HSB.out d hd).1.lt y hy; have h7 := HNE.out; simp; omega)
            refine ⟨ua, uc, ra_, rc_, ts, ds, ?_, ⟨?_, ?_, fun d hd => (HTS d hd).2.2.1, fun d hd => (HOS d hd).2.2.2⟩, OwnTs.reads (mem.own_chg HOT.out HALL.out (fun y hy => by have h3 := (World.ownsRow.lt HOT.out y hy).1; have h7 := HNE1.out; simp; omega)) HTS, OwnOs.reads (mem.own_chg HOW.out HALO.out (fun y hy => by have h3 := (World.ownsRow.lt HOW.out y hy).1; have h7 := HNE.out; simp; omega)) HOS, ?_⟩
            · rw [HDE.out.1, HDE.out.2]; rfl
            · rw [if_pos HDE.out.1, ← HLR.out.2.1]; exact HG.out.2.2.2.2.1
            · rw [if_pos HDE.out.1, ← HLO.out.2.1]; have h9 := HG.out.2.2.2.2.2; rw [HLR.out.2.2] at h9; exact h9
            · exact ((HCX.out.trans HM.out).trans HRQc.out).into HC9.out (fun y hy => .inr (by simp at hy; omega))
end Go.Proofs.Ytkmalnojkjmjiaa.img
