/- Package isa: Decode. -/
import Derived.Test.YtihgljfiggdcpaaIsa5
namespace Go.Proofs.Ytihgljfiggdcpaa.isa
open Go Go.RowKit Go.Proofs.Ytihgljfiggdcpaa.kit Go.Proofs.Ytihgljfiggdcpaa.codec
set_option linter.unusedVariables false
set_option maxRecDepth 20000

def insAt (zs : List Int) (k : Nat) : Ins := ⟨numL ((zs.drop (8 * k)).take 1), numL ((zs.drop (8 * k + 1)).take 1), numL ((zs.drop (8 * k + 2)).take 1), numL ((zs.drop (8 * k + 3)).take 1), numL ((zs.drop (8 * k + 4)).take 4)⟩
def insN (zs : List Int) (k : Nat) : List Ins := (List.range k).map (insAt zs)
theorem insN_length (zs : List Int) (k : Nat) : (insN zs k).length = k := by simp [insN]
theorem insN_succ (zs : List Int) (k : Nat) : insN zs (k + 1) = insN zs k ++ [insAt zs k] := by simp [insN, List.range_succ]
/-- what Decode tells of bytes -/
def DecR (zs : List Int) (out : List Ins) (at_ er : Int) : Prop :=
  ∃ k : Nat, 8 * k ≤ zs.length ∧ (∀ j, j < k → rightI (insAt zs j) = true) ∧
    ((8 * k + 8 ≤ zs.length ∧ rightI (insAt zs k) = false ∧ out = [] ∧ at_ = k ∧ er = 4) ∨
     (zs.length < 8 * k + 8 ∧ 8 * k < zs.length ∧ out = [] ∧ at_ = k ∧ er = 2) ∨
     (zs.length = 8 * k ∧ out = insN zs k ∧ at_ = 0 ∧ er = 0))
theorem DecR.same {zs : List Int} {o1 o2 : List Ins} {a1 a2 e1 e2 : Int} (h1 : DecR zs o1 a1 e1) (h2 : DecR zs o2 a2 e2) : o1 = o2 ∧ a1 = a2 ∧ e1 = e2 := by
  obtain ⟨k, hk, hr, hc⟩ := h1
  obtain ⟨m, hm, hs, hd⟩ := h2
  have key : k = m := by
    rcases Nat.lt_trichotomy k m with h | h | h
    · exfalso
      have := hs k h
      rcases hc with ⟨_, hx, _⟩ | ⟨hx, _⟩ | ⟨hx, _⟩
      · rw [this] at hx; cases hx
      · omega
      · omega
    · exact h
    · exfalso
      have := hr m h
      rcases hd with ⟨_, hx, _⟩ | ⟨hx, _⟩ | ⟨hx, _⟩
      · rw [this] at hx; cases hx
      · omega
      · omega
  subst key
  rcases hc with ⟨q1, q2, rfl, rfl, rfl⟩ | ⟨q1, q2, rfl, rfl, rfl⟩ | ⟨q1, rfl, rfl, rfl⟩ <;> rcases hd with ⟨p1, p2, rfl, rfl, rfl⟩ | ⟨p1, p2, rfl, rfl, rfl⟩ | ⟨p1, rfl, rfl, rfl⟩ <;> first | exact ⟨rfl, rfl, rfl⟩ | (exfalso; omega)

/-- a row of instructions -/
def ReadsI (w : World) (v : Value) (p : List Ins) : Prop := Reads w 5 v p.length (p.flatMap Ins.cells) ∧ insW p
def OwnI (w : World) (B : Nat) (v : Value) (p : List Ins) : Prop := w.ownsRow B 60 5 v p.length (p.flatMap Ins.cells)
theorem ReadsI.nil (w : World) : ReadsI w (.slice none 0 0) [] := ⟨Reads.nil w 5, by intro i hi; cases hi⟩
theorem ReadsI.chg {w w' : World} {v : Value} {p : List Ins} (h : ReadsI w v p) (k : Chg [] w w') : ReadsI w' v p := ⟨h.1.fresh k, h.2⟩
theorem infoI : (Try.prog.info? 60).map (fun i => (i.zero, i.size, i.bytes)) = some (some (.agg #[.int .i64 0, .int .i64 0, .int .i64 0, .int .i64 0, .int .u32 0]), 5, 40) := by kernel_rfl

theorem u8_step (b g : Nat) (zs : List Int) (a : Nat) (w : World) (h : RIn w b g zs a false) (hn : a + 1 ≤ zs.length) :
    Calls Try.prog 51 #[.pointer (some ⟨b, 0, none⟩)] w fun e w' => e = .returned (.int .i64 (numL ((zs.drop a).take 1))) ∧ RIn w' b g zs (a + 1) false ∧ Chg [b] w w' := by
  have hb := numL_bd ((zs.drop a).take 1) (wf_piece h.wf a 1)
  have hl : ((zs.drop a).take 1).length = 1 := by rw [List.length_take, List.length_drop]; omega
  rw [hl] at hb
  exact U8_of _ _ w _ hb.1 (by omega) (num_ok b g zs a 1 w h hn (by decide))
theorem u32_wf (zs : List Int) (hw : ∀ x ∈ zs, (Lit.int .u8 x).wf = true) (a : Nat) : 0 ≤ numL ((zs.drop a).take 4) ∧ numL ((zs.drop a).take 4) ≤ 4294967295 := by
  have hb := numL_bd ((zs.drop a).take 4) (wf_piece hw a 4)
  have hl : ((zs.drop a).take 4).length ≤ 4 := by rw [List.length_take]; omega
  have : (256 : Int) ^ ((zs.drop a).take 4).length ≤ 256 ^ 4 := by
    generalize ((zs.drop a).take 4).length = m at hl
    have : m = 0 ∨ m = 1 ∨ m = 2 ∨ m = 3 ∨ m = 4 := by omega
    rcases this with rfl | rfl | rfl | rfl | rfl <;> decide
  omega
theorem u32_step (b g : Nat) (zs : List Int) (a : Nat) (w : World) (h : RIn w b g zs a false) (hn : a + 4 ≤ zs.length) :
    Calls Try.prog 52 #[.pointer (some ⟨b, 0, none⟩)] w fun e w' => e = .returned (.int .u32 (numL ((zs.drop a).take 4))) ∧ RIn w' b g zs (a + 4) false ∧ Chg [b] w w' := by
  have hb := u32_wf zs h.wf a
  exact U32_of _ _ w _ hb.1 hb.2 (num_ok b g zs a 4 w h hn (by decide))
theorem insAt_wf (zs : List Int) (hw : ∀ x ∈ zs, (Lit.int .u8 x).wf = true) (k : Nat) : (Lit.int .u32 (insAt zs k).n).wf = true := by
  have := u32_wf zs hw (8 * k + 4)
  simp [insAt, Lit.wf, IntKind.min, IntKind.max, IntKind.signed, IntKind.bits]; omega
theorem insN_wf (zs : List Int) (hw : ∀ x ∈ zs, (Lit.int .u8 x).wf = true) (k : Nat) : insW (insN zs k) := by
  intro i hi
  obtain ⟨j, _, rfl⟩ := List.mem_map.1 hi
  exact insAt_wf zs hw j
theorem ins_oneCell (p : List Ins) : ∀ u ∈ p.flatMap Ins.cells, u.oneCell' = true := by
  intro u hu
  obtain ⟨i, _, hi⟩ := List.mem_flatMap.1 hu
  simp [Ins.cells] at hi
  rcases hi with rfl | rfl | rfl | rfl | rfl <;> rfl

theorem own_chg {w w' : World} {B e size n : Nat} {v : Value} {xs : List Value} {L : List Nat} (h : w.ownsRow B e size v n xs) (k : Chg L w w') (hn : ∀ b, v.ownBlock = some b → b ∉ L) : w'.ownsRow B e size v n xs := by
  refine ⟨h.1, ?_⟩
  rcases h.2 with h0 | ⟨g, cap, cur, rfl, hb, hg, r⟩
  · exact .inl h0
  · exact .inr ⟨g, cap, cur, rfl, hb, k.heap hg (hn g rfl), r⟩
def lenV : Value → Nat | .slice _ n _ => n | _ => 0
set_option maxRecDepth 100000 in
set_option maxHeartbeats 2000000 in
theorem Decode_any (v : Value) (zs : List Int) (w : World) (hr : ReadsB w v zs) (hz : zs.length ≤ 8000) :
    Calls Try.prog 26 #[v] w fun e w' => ∃ v' out at_ er, DecR zs out at_ er ∧ e = .returned (.tuple #[v', .int .i64 at_, .int .i64 er]) ∧ ReadsI w' v' out ∧ Chg [] w w' := by
  obtain ⟨i0, hi, hz0, hz1, hz2⟩ := info_parts infoI
  have HZ := Lib.hid hz
  have HR := Lib.hid hr
  have HWF := Lib.hid hr.2
  generalize hN : zs.length = N at *
  have HN := Lib.hid hN
  clear hz hN hr
  go_enter Try.func26, Try.ntmps26
  go_wp2_with (go_at_call 49; refine (New_any _ _ _ HR.out (by have := HZ.out; have := HN.out; omega)).mono ?_; rintro e w1 ⟨b, g, rfl, h1, hc1, hb1, hg1⟩; have HI1 := Lib.hid h1; have HC1 := Lib.hid hc1; clear h1 hc1)
  go_loopw [5] (fun out wr => ∃ k : Nat, 8 * k ≤ N ∧ Hid (RIn wr b g zs (8 * k) false) ∧ Hid (OwnI wr w1.heap.size out (insN zs k)) ∧ Hid (∀ j, j < k → rightI (insAt zs j) = true) ∧ Hid (Chg [b] w1 wr) ∧ (∃ a c, out = .slice a k c)) (fun out _ => N + 1 - lenV out)
  case atStart => exact ⟨0, Nat.zero_le _, HI1, Lib.hid (World.ownsRow_nil _ _ _ _), Lib.hid (fun j hj => by omega), Lib.hid (Chg.refl _ _), _, _, rfl⟩
  case round =>
    obtain ⟨k, hk, HRI, HO, HA, HG, a, c, rfl⟩ := hrel
    have hleft : ∃ m : Nat, m + 8 * k = N ∧ ((if false = true then 0 else (zs.length : Int) - ((8 * k : Nat) : Int)) = (m : Int)) := ⟨N - 8 * k, by omega, by have := HN.out; simp; omega⟩
    obtain ⟨m, hm, hmv⟩ := hleft
    have HMV := Lib.hid hmv
    have HM := Lib.hid hm
    have HK := Lib.hid hk
    clear hmv hm hk
    by_cases hlt : 8 ≤ m
    · have hk1000 : k ≤ 1000 := by have := HM.out; have := HZ.out; omega
      go_wp2_with fail
      refine (Left_any b g zs (8 * k) false _ HRI.out).mono ?_
      rintro e w2 ⟨rfl, nq, rfl⟩
      rw [HMV.out]
      have HR0 := Lib.hid (HRI.out.drewN nq)
      have hbz : 8 * k + 8 ≤ zs.length := by have := HM.out; have := HN.out; omega
      have HBZ := Lib.hid hbz
      clear hbz
      go_wp2_with fail
      refine (u8_step b g zs (8 * k) _ HR0.out (by have := HBZ.out; omega)).mono ?_
      rintro e w3 ⟨rfl, r3, c3⟩
      have HR3 := Lib.hid r3
      have HC3 := Lib.hid c3
      clear r3 c3
      go_wp2_with fail
      refine (u8_step b g zs (8 * k + 1) _ HR3.out (by have := HBZ.out; omega)).mono ?_
      rintro e w4 ⟨rfl, r4, c4⟩
      have HR4 := Lib.hid r4
      have HC4 := Lib.hid (HC3.out.trans c4)
      clear r4 c4
      go_wp2_with fail
      refine (u8_step b g zs (8 * k + 2) _ HR4.out (by have := HBZ.out; omega)).mono ?_
      rintro e w5 ⟨rfl, r5, c5⟩
      have HR5 := Lib.hid r5
      have HC5 := Lib.hid (HC4.out.trans c5)
      clear r5 c5
      go_wp2_with fail
      refine (u8_step b g zs (8 * k + 3) _ HR5.out (by have := HBZ.out; omega)).mono ?_
      rintro e w6 ⟨rfl, r6, c6⟩
      have HR6 := Lib.hid r6
      have HC6 := Lib.hid (HC5.out.trans c6)
      clear r6 c6
      go_wp2_with fail
      refine (u32_step b g zs (8 * k + 4) _ HR6.out (by have := HBZ.out; omega)).mono ?_
      rintro e w7 ⟨rfl, r7, c7⟩
      have HR7 := Lib.hid r7
      have HC7 := Lib.hid (HC6.out.trans c7)
      clear r7 c7
      have hins : insAt zs k = ⟨numL ((zs.drop (8 * k)).take 1), numL ((zs.drop (8 * k + 1)).take 1), numL ((zs.drop (8 * k + 2)).take 1), numL ((zs.drop (8 * k + 3)).take 1), numL ((zs.drop (8 * k + 4)).take 4)⟩ := rfl
      have hnw := insAt_wf zs HWF.out k
      generalize numL ((zs.drop (8 * k)).take 1) = op at *
      generalize numL ((zs.drop (8 * k + 1)).take 1) = ia at *
      generalize numL ((zs.drop (8 * k + 2)).take 1) = ib at *
      generalize numL ((zs.drop (8 * k + 3)).take 1) = ic at *
      generalize numL ((zs.drop (8 * k + 4)).take 4) = inn at *
      rw [hins] at hnw
      have HINS := Lib.hid hins
      have HNW := Lib.hid hnw
      clear hins hnw
      generalize hg : rightI ⟨op, ia, ib, ic, inn⟩ = g1
      have HG1 := Lib.hid hg
      clear hg
      cases g1
      · go_wp2_with (go_at_call 30; refine (Right_any op ia ib ic inn HNW.out _).mono ?_; rintro e w8 ⟨rfl, hc8⟩; rw [HG1.out]; have HC8 := Lib.hid hc8; clear hc8)
        go_ret3
        refine ⟨_, [], k, 4, ⟨k, by have := HBZ.out; omega, HA.out, .inl ⟨HBZ.out, by rw [HINS.out]; exact HG1.out, rfl, rfl, rfl⟩⟩, rfl, ReadsI.nil _, ?_⟩
        exact HC1.out.into (((((HG.out.drewN nq).trans HC7.out).alloc _).fresh HC8.out)) (fun x hx => .inr (by simp at hx; subst hx; exact hb1))
      · go_wp2_with (first | (go_at_call 30; refine (Right_any op ia ib ic inn HNW.out _).mono ?_; rintro e w8 ⟨rfl, hc8⟩; rw [HG1.out]; have hbx := (Blk.new w7 #[.int .i64 op, .int .i64 ia, .int .i64 ib, .int .i64 ic, .int .u32 inn] 60).keep hc8 (by simp); have f0 := hbx.cell (o := 0) (v := .int .i64 op) rfl; have f1 := hbx.cell (o := 1) (v := .int .i64 ia) rfl; have f2 := hbx.cell (o := 2) (v := .int .i64 ib) rfl; have f3 := hbx.cell (o := 3) (v := .int .i64 ic) rfl; have f4 := hbx.cell (o := 4) (v := .int .u32 inn) rfl; have hlt8 := hbx.lt; have HKL := Lib.hid hc8; have HC8 := Lib.hid ((((HG.out.drewN nq).trans HC7.out).alloc _).fresh hc8); have HOW := Lib.hid (own_chg HO.out (((((Chg.refl [b] wr).drewN nq).trans HC7.out).alloc _).fresh hc8) (fun y hy => by have := (World.ownsRow.lt HO.out y hy).1; have := HI1.out.box.lt; simp; omega)); clear hc8 hbx) | (at_builtin; refine wpList_append_any _ rfl _ _ 50 rfl w1.heap.size 60 i0 _ 5 40 Try.underlying50 hi hz0 hz1 hz2 rfl (by decide) (.slice a k c) k _ rfl (by have := World.ownsRow.alloc HOW.out (.cells #[.int .i64 op, .int .i64 ia, .int .i64 ib, .int .i64 ic, .int .u32 inn] 60); rw [insN_length] at this; exact this) _ 1 _ rfl (reads_row _ _ _ 5 1 (by decide) rfl (by decide)) (ins_oneCell [⟨op, ia, ib, ic, inn⟩]) (by unfold maxLen; omega) (by omega) (by have := HC8.out.size; simp; omega) ?_; intro v9 w9 hown9 hg9; have hc9 := (HC8.out.alloc _).grown hg9 (fun y hy => .inr (World.ownsRow.lt HO.out y hy).1); have HKK := Lib.hid (((((Chg.refl (Value.slice a k c).ownBlock.toList w7).alloc _).fresh HKL.out).alloc _).grown hg9 (fun y hy => .inl (by rw [hy]; simp))); have HC9 := Lib.hid hc9; have HO9 := Lib.hid hown9; clear hg9 hc9 hown9))
        obtain ⟨a9, c9, hv9, _⟩ := reads_slice (Reads.of_own HO9.out (by decide))
        subst hv9
        go_roundw
        case rel =>
          refine ⟨k + 1, by have := HM.out; omega, Lib.hid ?_, Lib.hid ?_, Lib.hid ?_, HC9, _, _, rfl⟩
          · rw [show 8 * (k + 1) = 8 * k + 4 + 4 by omega]
            refine HR7.out.keep HKK.out (fun hm => ?_) (fun hm => ?_)
            · have := (World.ownsRow.lt HO.out b (by simpa using hm)).1
              have := HI1.out.box.lt
              omega
            · have := (World.ownsRow.lt HO.out g (by simpa using hm)).1
              have := HI1.out.bytes.lt
              omega
          · unfold OwnI
            rw [insN_length, insN_succ, HINS.out, List.flatMap_append]
            simpa [Ins.cells] using HO9.out
          · intro j hj
            by_cases hjk : j = k
            · subst hjk; rw [HINS.out]; exact HG1.out
            · exact HA.out j (by omega)
        case measure => simp [lenV]; have := HM.out; omega
    · go_wp2_with fail
      refine (Left_any b g zs (8 * k) false _ HRI.out).mono ?_
      rintro e w2 ⟨rfl, nq, rfl⟩
      rw [HMV.out]
      have HR0 := Lib.hid (HRI.out.drewN nq)
      go_wp2_with fail
      refine (Left_any b g zs (8 * k) false _ HR0.out).mono ?_
      rintro e w3 ⟨rfl, nr, rfl⟩
      rw [HMV.out]
      by_cases hm0 : m = 0
      · subst hm0
        go_wp2_with fail
        go_ret3
        have hN8 : zs.length = 8 * k := by have := HM.out; have := HN.out; omega
        refine ⟨_, insN zs k, 0, 0, ⟨k, by omega, HA.out, .inr (.inr ⟨hN8, rfl, rfl, rfl⟩)⟩, rfl, ⟨?_, insN_wf zs HWF.out k⟩, ?_⟩
        · rw [insN_length]; exact (Reads.of_own (by have := HO.out; unfold OwnI at this; rw [insN_length] at this; exact this) (by decide)).drewN _
        · exact HC1.out.into (HG.out.drewN _) (fun x hx => .inr (by simp at hx; subst hx; exact hb1))
      · have hm1 : 0 < m := by omega
        have h8 : decide ((8 : Int) ≤ m) = false := by simp; omega
        have h9 : decide (0 < m) = true := by simp; omega
        go_wp2_with fail
        go_ret3
        refine ⟨_, [], k, 2, ⟨k, by have := HM.out; have := HN.out; omega, HA.out, .inr (.inl ⟨by have := HM.out; have := HN.out; omega, by have := HM.out; have := HN.out; omega, rfl, rfl, rfl⟩)⟩, rfl, ReadsI.nil _, ?_⟩
        exact HC1.out.into (HG.out.drewN _) (fun x hx => .inr (by simp at hx; subst hx; exact hb1))
end Go.Proofs.Ytihgljfiggdcpaa.isa
