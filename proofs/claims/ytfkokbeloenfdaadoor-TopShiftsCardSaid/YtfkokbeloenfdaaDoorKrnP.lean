/- The kernel: Late. -/
import Derived.Test.YtfkokbeloenfdaaDoorKrnO
namespace Go.Proofs.YtfkokbeloenfdaaDoor.krn
open Go Go.RowKit Go.Proofs.YtfkokbeloenfdaaDoor.kit Go.Shelf
set_option linter.unusedVariables false
set_option linter.unusedSimpArgs false
set_option maxRecDepth 20000
def lateF (t : Int) (p : Led × List Nat) (i : Nat) : Led × List Nat :=
  if (p.1.get i).missed = false ∧ (p.1.get i).dl ≤ t then ({ p.1 with all := p.1.all.set (p.1.nowj i) { p.1.get i with missed := true } }, p.2 ++ [i]) else p
def lateM (s : Led) (t : Int) : Led × List Nat := (bitsM s.act).foldl (lateF t) (s, [])
theorem LedOK.setJob {s : Led} {n : Nat} (h : LedOK s n) (j : Nat) (x : Jb) (hx : (0 ≤ x.rel ∧ x.rel ≤ 4096) ∧ (0 ≤ x.dl ∧ x.dl ≤ 2000000) ∧ (0 ≤ x.steps ∧ x.steps ≤ 4096) ∧ (0 ≤ x.no ∧ x.no ≤ n)) : LedOK { s with all := s.all.set j x } n := by
  refine ⟨h.act, by simpa using h.alen, h.olen, h.llen, h.cnt, fun i hb => by simpa using h.now i hb, fun y hy => ?_, h.fitl⟩
  rcases List.mem_or_eq_of_mem_set hy with h1 | rfl
  · exact h.fit y h1
  · exact hx
theorem lateF_ok {s : Led} {n : Nat} {out : List Nat} (h : LedOK s n) (t : Int) (i : Nat) (hb : s.act.testBit i = true) : LedOK (lateF t (s, out) i).1 n ∧ (lateF t (s, out) i).1.act = s.act ∧ (lateF t (s, out) i).1.now = s.now ∧ (lateF t (s, out) i).1.l = s.l ∧ (lateF t (s, out) i).2.length ≤ out.length + 1 := by
  obtain ⟨j, x, h1, h2, h3, h4⟩ := h.job hb
  unfold lateF
  split
  · refine ⟨h.setJob _ _ ?_, rfl, rfl, rfl, by simp⟩
    rw [h4]
    exact h.fit x (List.mem_of_getElem? h2)
  · exact ⟨h, rfl, rfl, rfl, by simp⟩
theorem own_one {w : World} {B g c n : Nat} {T : TypeId} {xs : List Value} (h : w.ownsRow B T 1 (.slice (some ⟨g, 0, none⟩) n c) n xs) (k : Nat) (v : Value) (hv : xs[k]? = some v) : w.cell? ⟨g, k, none⟩ = some v := by
  have hk : k < n * 1 := by
    have := h.1
    rcases Nat.lt_or_ge k xs.length with h1 | h1
    · omega
    · rw [List.getElem?_eq_none h1] at hv; cases hv
  have := World.ownsRow.cellAt h k hk
  rw [hv] at this
  exact this
set_option maxHeartbeats 4000000 in
theorem Late_any (B db n : Nat) (s : Led) (q : LedQ) (t : Int) (w : World) (h : LedAt w B db n s q) (hk : LedOK s n) (hT : bitm.Tab w) (h0 : 0 ≤ t) (h1 : t ≤ 4096) :
    Calls Tryd.prog 24 #[.pointer (some ⟨db, 0, none⟩), .int .i64 t] w fun e w' => ∃ v, e = .returned v ∧ OwnN w' w.heap.size v (lateM s t).2 ∧ LedAt w' B db n (lateM s t).1 q ∧ LedOK (lateM s t).1 n ∧ Chg (q.aa.map (·.block)).toList w w' := by
  have HA := Lib.hid (Active_any B db n s q w h)
  have HLI := Lib.hid (List_any s.act hk.act w hT)
  have HT : Hid (∀ V, Calls Tryd.prog 40 #[.int .i64 t] V fun e w' => e = .returned (.int .i64 t) ∧ w' = V) := Lib.hid (fun V => (time_any t h0 h1 V).mono (fun e w' h => ⟨h.1, h.2.symm⟩))
  have HB := Lib.hid (fun i hi => bitsM_bit s.act (by have := hk.act; omega) i hi)
  have HLE := Lib.hid (bitsM_le s.act)
  have HS := Lib.hid (⟨h, hk⟩ : _ ∧ _)
  have HLT := Lib.hid h.lt
  clear h hk hT h0 h1
  go_enter Tryd.func24, Tryd.ntmps24
  go_wp2_with (first | (go_at_call 30; refine HA.out.mono ?_; rintro e w' ⟨rfl, rfl⟩) | (go_at_call 39; refine HLI.out.mono ?_; rintro e w1 ⟨lv, rfl, hlo, hc1⟩; obtain ⟨la, lc, rfl⟩ := own_open hlo))
  have HLO := Lib.hid hlo
  have HC1 := Lib.hid hc1
  obtain ⟨bits, hbits⟩ : ∃ z, bitsM s.act = z := ⟨_, rfl⟩
  have HBT : Hid (bitsM s.act = bits) := Lib.hid hbits
  rw [hbits] at HLO HB HLE
  clear hlo hc1
  rw [hbits]
  clear hbits
  go_loopw [5, 13] (fun ov p wr => ∃ (k : Nat) (s' : Led) (out : List Nat) (oa : Option Addr) (oc : Nat), ov = .slice oa out.length oc ∧ p = .int .i64 k ∧ Hid (k ≤ bits.length ∧ (bits.take k).foldl (lateF t) (s, []) = (s', out) ∧ out.length ≤ k) ∧ Hid (LedAt wr B db n s' q ∧ LedOK s' n ∧ s'.act = s.act ∧ s'.now = s.now) ∧ Hid (OwnN wr w1.heap.size (.slice oa out.length oc) out) ∧ Hid (OwnN wr w.heap.size (.slice la bits.length lc) bits) ∧ Hid (Chg (q.aa.map (·.block)).toList w1 wr)) (fun _ p _ => bits.length - (intOf p).toNat)
  case atStart => exact ⟨0, s, [], none, 0, rfl, rfl, Lib.hid ⟨by omega, rfl, by simp⟩, Lib.hid ⟨HS.out.1.fresh HC1.out, HS.out.2, rfl, rfl⟩, Lib.hid ⟨rfl, .inl ⟨rfl, rfl⟩⟩, HLO, Lib.hid (Chg.refl _ _)⟩
  case round =>
    obtain ⟨k, s', out, oa, oc, rfl, rfl, HK, HL2, HO, HLB, HC⟩ := hrel
    by_cases hkl : k < bits.length
    · have m1 : (k : Int) < (bits.length : Int) := by omega
      obtain ⟨i, hi⟩ : ∃ i, bits[k]? = some i := ⟨_, List.getElem?_eq_getElem hkl⟩
      have hbi := HB.out i (List.mem_of_getElem? hi)
      obtain ⟨gb, cb, hv, hgB, hgb⟩ := own_addr HLB.out (by omega)
      simp only [Value.slice.injEq] at hv
      obtain ⟨rfl, -, rfl⟩ := hv
      have ixb := index_at (size := 1) Tryd.underlying44 szInt gb bits.length lc k hkl
      rw [Nat.mul_one] at ixb
      have cb : wr.cell? ⟨gb, k, none⟩ = some (.int .i64 (i : Int)) := own_one HLB.out k _ (by rw [intC, List.getElem?_map, hi]; rfl)
      have hbi' : s'.act.testBit i = true := by rw [HL2.out.2.2.1]; exact hbi
      obtain ⟨j, x, hn, hx, hjl, hg⟩ := HL2.out.2.1.job hbi'
      have hi8 := bit_lt HL2.out.2.1.act hbi'
      have HJ := Lib.hid (job_any B db n s' q i j wr HL2.out.1 (by omega) hn hjl)
      have HF : Hid (∀ V g, Chg [] wr V → q.aa = some ⟨g, 0, none⟩ → _) := Lib.hid (fun V g hV hq => (HL2.out.1.fresh hV).job hq hx)
      have htk : bits.take (k + 1) = bits.take k ++ [i] := by rw [List.take_add_one, hi]; rfl
      have hfo : (bits.take (k + 1)).foldl (lateF t) (s, []) = lateF t (s', out) i := by rw [htk, List.foldl_append, HK.out.2.1]; rfl
      have HOK := Lib.hid (lateF_ok (out := out) HL2.out.2.1 t i hbi')
      have HX := Lib.hid hx
      have HLF : Hid (lateF t (s', out) i = if x.missed = false ∧ x.dl ≤ t then ({ s' with all := s'.all.set j { x with missed := true } }, out ++ [i]) else (s', out)) := Lib.hid (by unfold lateF; simp only [hg, nowj_of hn])
      have HFO := Lib.hid hfo
      have HN : Hid (k < bits.length) := Lib.hid hkl
      have h63 : ¬ (k : Int) + 1 > 9223372036854775807 := by have h7 := HLE.out; have h8 := HS.out.2.act; omega
      have HNG : Hid (gb < w1.heap.size ∧ w.heap.size ≤ gb) := Lib.hid ⟨(World.ownsRow.lt HLO.out gb (by simp [Value.ownBlock])).2, (World.ownsRow.lt HLO.out gb (by simp [Value.ownBlock])).1⟩
      have hmx : Tryd.prog.follows .mixedOrders = true := by kernel_rfl
      obtain ⟨x0, x1, x2, x3, x4, x5, x6, x7⟩ := x
      clear hi hbi hbi' hn hx hjl hg htk hfo hkl hgB hgb
      by_cases hmis : x7 = false ∧ x3 ≤ t
      · obtain ⟨rfl, hle⟩ := hmis
        have HLF1 := Lib.hid (HLF.out.trans (if_pos ⟨rfl, hle⟩))
        go_wp2_with (go_at_call 32; refine HJ.out.mono ?_; rintro e w2 ⟨g, c, rfl, hq, -, hc2⟩; have HC2 := Lib.hid hc2; obtain ⟨⟨⟨y0, y1, y2, y3⟩, y4, y5, y6, y7⟩, hfr⟩ := HF.out w2 g hc2 hq; have f7 := hfr 7 (by decide); have HQ := Lib.hid hq; clear hc2 hq hfr)
        go_quiet (first | (go_at_call 40; refine Calls.quiet_of_same (HT.out _)))
        go_upto_region 8 with fail
        have HS2 := Lib.hid ((HL2.out.1.fresh (HC2.out.drewN nq)).putJob (f := 7) (y := ⟨x0, x1, x2, x3, x4, x5, x6, true⟩) HQ.out HX.out (by decide) (.bool true) rfl)
        have hcv : Chg [g] wr ((w2.drewN nq).setCell ⟨g, j * 8 + 7, none⟩ (.bool true)) := ((HC2.out.drewN nq).mono (by simp)).setCell (.inl (by simp)) _
        obtain ⟨V1, hV1⟩ : ∃ V1, (w2.drewN nq).setCell ⟨g, j * 8 + 7, none⟩ (.bool true) = V1 := ⟨_, rfl⟩
        rw [hV1] at HS2 hcv ⊢
        have HCV := Lib.hid hcv
        have HG : Hid (g < w.heap.size) := Lib.hid (HLT.out g (by simp [LedQ.bs, HQ.out]))
        have HSZ : Hid (w1.heap.size ≤ V1.heap.size) := Lib.hid (Nat.le_trans HC.out.size hcv.size)
        have HO1 : Hid (OwnN V1 w1.heap.size (.slice oa out.length oc) out) := Lib.hid (own_keep HO.out hcv (fun y hy hm => by have h7 := (World.ownsRow.lt HO.out y hy).1; have h8 := HG.out; have h9 := HC1.out.size; have := List.mem_singleton.1 hm; omega))
        have HB1 : Hid (OwnN V1 w.heap.size (.slice (some ⟨gb, 0, none⟩) bits.length lc) bits) := Lib.hid (own_keep HLB.out hcv (fun y hy hm => by have h7 := (World.ownsRow.lt HLB.out y hy).1; have h8 := HG.out; have := List.mem_singleton.1 hm; omega))
        clear hV1 hcv y0 y1 y2 y3 y4 y5 y6 y7 f7
        obtain ⟨i0, hi0, hz0, hz1, hz2⟩ := info_parts infoInt
        have hb1 : out.length + 1 ≤ maxLen := by have h7 := HK.out.2.2; have h8 := HN.out; have h9 := HLE.out; have := HS.out.2.act; unfold maxLen; omega
        have hb2 : (out.length + 1) * 8 ≤ 140737488355328 := by have h7 := HK.out.2.2; have h8 := HN.out; have h9 := HLE.out; have := HS.out.2.act; omega
        have hOA : (V1.alloc (.cells #[.int .i64 (i : Int)] 3)).ownsRow w1.heap.size 3 1 (.slice oa out.length oc) out.length (intC out) := own_keep HO1.out ((Chg.refl [] _).alloc _) (by simp)
        have hcc := one_cell V1 (.int .i64 (i : Int)) 3
        have hb3 : w1.heap.size ≤ (V1.alloc (.cells #[.int .i64 (i : Int)] 3)).heap.size := by rw [World.size_alloc]; have := HSZ.out; omega
        go_wp2_with (at_builtin; refine wpList_append_own_at _ rfl (.tmp 37) (.tmp 39) 44 rfl w1.heap.size 3 i0 (.int .i64 0) 1 8 Tryd.underlying44 hi0 hz0 hz1 hz2 rfl (by decide) (.slice oa out.length oc) out.length (intC out) rfl hOA ⟨V1.heap.size, 0, none⟩ 1 1 [.int .i64 (i : Int)] rfl rfl hcc (by simp [Value.oneCell']) hb1 hb2 hb3 ?_; intro v' w' hown' hgrow hnil hblk; obtain ⟨oa', oc', rfl⟩ := own_open hown'; have HKA := Lib.hid (((Chg.refl (Value.slice oa out.length oc).ownBlock.toList V1).alloc (.cells #[.int .i64 (i : Int)] 3)).grown hgrow (fun k hk => .inl (Option.mem_toList.2 hk))); have HON := Lib.hid hown'; clear hown' hgrow hnil hblk)
        have HNB : Hid (∀ y ∈ (Value.slice oa out.length oc).ownBlock.toList, w1.heap.size ≤ y) := Lib.hid (fun y hy => (World.ownsRow.lt HO1.out y (Option.mem_toList.1 hy)).1)
        go_roundw
        case rel =>
          refine ⟨k + 1, { s' with all := s'.all.set j ⟨x0, x1, x2, x3, x4, x5, x6, true⟩ }, out ++ [i], oa', oc', by simp, by simp, Lib.hid ⟨by have := HN.out; omega, by rw [HFO.out, HLF1.out], by have := HK.out.2.2; simp; omega⟩, Lib.hid ⟨HS2.out.keep HKA.out (fun y hy hm => ?_), ?_, HL2.out.2.2.1, HL2.out.2.2.2⟩, ?_, ?_, ?_⟩
          · have h7 := HLT.out y hy
            have h8 := HNB.out y hm
            have h9 := HC1.out.size
            omega
          · have := HOK.out.1
            rw [HLF1.out] at this
            exact this
          · exact Lib.hid (by rw [show (out ++ [i]).length = out.length + 1 by simp]; exact OwnN.snoc HON.out)
          · exact Lib.hid (own_keep HB1.out HKA.out (fun y hy hm => by
              have h7 := HNG.out.1
              have h8 := HNB.out y hm
              simp only [Value.ownBlock, Option.map_some, Option.some.injEq] at hy
              omega))
          · refine Lib.hid ((HC.out.trans (HCV.out.mono (fun y hy => by rw [HQ.out]; simpa using hy))).into HKA.out (fun y hy => .inr (HNB.out y hy)))
        case measure =>
          have := HN.out
          simp [intOf]
          omega
      · have HLF1 := Lib.hid (HLF.out.trans (if_neg hmis))
        go_wp2_with (go_at_call 32; refine HJ.out.mono ?_; rintro e w2 ⟨g, c, rfl, hq, -, hc2⟩; have HC2 := Lib.hid hc2; obtain ⟨⟨⟨y0, y1, y2, y3⟩, y4, y5, y6, y7⟩, hfr⟩ := HF.out w2 g hc2 hq; clear hc2 hq hfr)
        cases x7 with
        | true =>
          go_quiet (fail)
          go_wp2
          go_roundw
          case rel =>
            have k2 : Chg [] wr (w2.drewN nq) := HC2.out.drewN nq
            exact ⟨k + 1, s', out, oa, oc, rfl, by simp, Lib.hid ⟨by have := HN.out; omega, by rw [HFO.out, HLF1.out], by have := HK.out.2.2; omega⟩, Lib.hid ⟨HL2.out.1.fresh k2, HL2.out.2⟩, Lib.hid (own_keep HO.out k2 (by simp)), Lib.hid (own_keep HLB.out k2 (by simp)), Lib.hid (HC.out.fresh k2)⟩
          case measure =>
            have := HN.out
            simp [intOf]
            omega
        | false => 
          have hle : ¬ x3 ≤ t := fun h => hmis ⟨rfl, h⟩
          go_quiet (first | (go_at_call 40; refine Calls.quiet_of_same (HT.out _)))
          go_wp2
          go_roundw
          case rel =>
            have k2 : Chg [] wr (w2.drewN nq) := HC2.out.drewN nq
            exact ⟨k + 1, s', out, oa, oc, rfl, by simp, Lib.hid ⟨by have := HN.out; omega, by rw [HFO.out, HLF1.out], by have := HK.out.2.2; omega⟩, Lib.hid ⟨HL2.out.1.fresh k2, HL2.out.2⟩, Lib.hid (own_keep HO.out k2 (by simp)), Lib.hid (own_keep HLB.out k2 (by simp)), Lib.hid (HC.out.fresh k2)⟩
          case measure =>
            have := HN.out
            simp [intOf]
            omega
    · have HKE : Hid (k = bits.length) := Lib.hid (by have := HK.out.1; omega)
      clear hkl
      have m1 : ¬ (k : Int) < (bits.length : Int) := by have := HKE.out; omega
      go_wp2
      go_ret
      have hk := HKE.out
      subst hk
      have hm : lateM s t = (s', out) := by have := HK.out.2.1; rw [List.take_length] at this; unfold lateM; rw [HBT.out]; exact this
      rw [hm]
      exact ⟨_, rfl, own_mono HO.out HC1.out.size, HL2.out.1, HL2.out.2.1, (HC1.out.mono (by simp)).trans HC.out⟩
end Go.Proofs.YtfkokbeloenfdaaDoor.krn
