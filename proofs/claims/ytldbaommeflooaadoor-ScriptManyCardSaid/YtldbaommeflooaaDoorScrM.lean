/- Scripts: the reference's numbers, lines, texts: R21.Num, R42.Line, R42.Print. -/
import Derived.Test.YtldbaommeflooaaDoorScrL
import Derived.Test.YtldbaommeflooaaDoorScrH
import Derived.Laws.IdiomStrings
namespace Go.Proofs.YtldbaommeflooaaDoor.scr
open Go Go.RowKit Go.Proofs.YtldbaommeflooaaDoor.kit Go.Proofs.YtldbaommeflooaaDoor.word Go.Shelf
set_option linter.unusedVariables false
set_option linter.unusedSimpArgs false
set_option maxRecDepth 20000
theorem conv_one (m k : Nat) (hk : k < 10) (b : Nat) (W : World) (hb : W.cell? ⟨b, 0, none⟩ = some (.int .u8 (48 + (k : Int)))) :
    (convert 51 9 (.slice (some ⟨b, 0, none⟩) 1 1)).run Tryd.prog W = .ok (strV [UInt8.ofNat (48 + k)]) W := by
  refine run_convert_bytes_back W _ _ 5 ⟨b, 0, none⟩ 1 [UInt8.ofNat (48 + k)] Tryd.underlying51 Tryd.underlying5 Tryd.underlying9 (fun j hj => ?_)
  have : j = 0 := by simpa using hj
  subst this
  rw [add_plain, hb]
  simp only [List.getElem_cons_zero, dgt hk]
  rw [Int.natCast_add]; rfl
set_option maxHeartbeats 2000000 in
theorem rNum_any (m : Nat) (hm : m ≤ 9223372036854775807) (W : World) :
    Calls Tryd.prog 41 #[.int .i64 (m : Int)] W fun e W' => e = .returned (strV (Lib.decDigits m)) ∧ Chg [] W W' := by
  induction m using Nat.strongRecOn generalizing W with
  | ind m ih =>
    by_cases h : m < 10
    · have HD := Lib.hid (Lib.decDigits_one h)
      have k1 : IntKind.i64.wrap (48 + (m : Int)) = 48 + (m : Int) := by rw [IntKind.wrap_i64]; omega
      have k2 : IntKind.u8.wrap (48 + (m : Int)) = 48 + (m : Int) := by rw [IntKind.wrap_u8]; omega
      have m1 : (m : Int) < 10 := by omega
      have cv := conv_one m m h W.heap.size _ ((Blk.new W #[.int .u8 (48 + (m : Int))] 5).cell (o := 0) rfl)
      obtain ⟨c, hc⟩ : ∃ c, UInt8.ofNat (48 + m) = c := ⟨_, rfl⟩
      rw [hc] at cv HD
      clear ih hc
      go_enter Tryd.func41, Tryd.ntmps41
      go_wp2
      go_ret
      exact ⟨by rw [HD.out]; rfl, (Chg.refl [] W).alloc _⟩
    · have m1 : ¬ (m : Int) < 10 := by omega
      have HD : Hid (Lib.decDigits m = Lib.decDigits (m / 10) ++ [UInt8.ofNat (48 + m % 10)]) := Lib.hid (by rw [Lib.decDigits, dif_neg h])
      have HIH := Lib.hid (fun W => ih (m / 10) (by omega) (by omega) W)
      obtain ⟨q, hq⟩ : ∃ q, m / 10 = q := ⟨_, rfl⟩
      obtain ⟨d, hd⟩ : ∃ d, m % 10 = d := ⟨_, rfl⟩
      have hd10 : d < 10 := by omega
      have kq : IntKind.i64.wrap ((m : Int) / 10) = (q : Int) := by rw [IntKind.wrap_i64]; omega
      have kd : (m : Int).tmod 10 = (d : Int) := by rw [Int.tmod_eq_emod_of_nonneg (by omega)]; omega
      have ks : IntKind.i64.wrap (48 + (d : Int)) = 48 + (d : Int) := by rw [IntKind.wrap_i64]; omega
      have ku : IntKind.u8.wrap (48 + (d : Int)) = 48 + (d : Int) := by rw [IntKind.wrap_u8]; omega
      have hcv := conv_one m d hd10
      rw [hd] at HD
      rw [hq] at HD HIH
      obtain ⟨c, hc⟩ : ∃ c, UInt8.ofNat (48 + d) = c := ⟨_, rfl⟩
      rw [hc] at hcv HD
      have HCV := Lib.hid hcv
      have hql := nDigits_le 19 q (by omega)
      rw [← Lib.decDigits_length] at hql
      obtain ⟨D, hD⟩ : ∃ D, Lib.decDigits q = D := ⟨_, rfl⟩
      rw [hD] at hql HD HIH
      have e1 : (ByteArray.mk D.toArray) ++ (ByteArray.mk #[c]) = ⟨(D ++ [c]).toArray⟩ := ByteArray.mk_append_mk D [c]
      have s1 : (ByteArray.mk D.toArray).size + (ByteArray.mk #[c]).size ≤ 9223372036854775807 := by simp [ByteArray.size]; omega
      have r1 := fun w => run_string_add_sum (P := Tryd.prog) (w := w) _ _ s1
      rw [e1] at r1
      clear ih hq hd hd10 hc hcv hD hql e1 s1
      go_enter Tryd.func41, Tryd.ntmps41
      go_upto_region 3 with fail
      have hHeld : (fun V : World => True) (World.drew W) := trivial
      refine wp_region_pt (fun V : World => True) (PT.read 0 (some 10) (PT.read 1 (some 11) (PT.read 3 (some 13) (PT.read 4 (some 14) (PT.read 5 (some 15) (PT.read 6 (some 16) (PT.fork 2 (some 12) (PT.act 7 (some 17) (PT.act 8 (some 18) (PT.read 9 (some 19) (PT.read 10 (some 2) PT.nil)))) 7 (some 17) (PT.fork 2 (some 12) (PT.act 8 (some 18) (PT.read 9 (some 19) (PT.read 10 (some 2) PT.nil))) 8 (some 18) (PT.act 2 (some 12) (PT.read 9 (some 19) (PT.read 10 (some 2) PT.nil))))))))))) (by kernel_rfl) (by kernel_rfl) (by kernel_rfl) (by kernel_rfl) (fun d c a v w h => by cases d <;> exact h) hHeld ?_
      clear hHeld
      repeat (refine pt_read (v := ?_) rfl rfl ?_ ?_ ?_; rotate_left; (focus rfl); (focus (intro u hSw; (try dsimp only at hSw); go_simp; (try with_reducible rfl))); (try simp only [Act.put, List.setIfInBounds_toArray, List.set_cons_zero, List.set_cons_succ]))
      have HC0 : Hid (Chg [] W W.drew) := Lib.hid (Chg.refl _ _).drew
      obtain ⟨W0, hW0⟩ : ∃ W0, W.drew = W0 := ⟨_, rfl⟩
      rw [hW0] at HC0 ⊢
      clear hW0
      refine pt_fork ?_ ?_
      · refine act_do rfl rfl ?_ (fun K hK => ?_)
        · rfl
        go_simp
        go_wp2_with (go_at_call 41; refine (HIH.out _).mono ?_; rintro e wS ⟨rfl, hx⟩; have HCS := Lib.hid (HC0.out.trans hx); clear hx)
        refine hK.out _ _ trivial (fun _ => ?_)
        clear hK K
        try simp only [Act.put, List.setIfInBounds_toArray, List.set_cons_zero, List.set_cons_succ]
        refine pt_act (act_do rfl rfl ?_ (fun K hK => ?_))
        · rfl
        go_simp
        go_wp2_with fail
        refine hK.out _ _ trivial (fun _ => ?_)
        clear hK K
        try simp only [Act.put, List.setIfInBounds_toArray, List.set_cons_zero, List.set_cons_succ]
        refine pt_act (act_do rfl rfl ?_ (fun K hK => ?_))
        · rfl
        have cv := HCV.out wS.heap.size _ ((Blk.new wS #[.int .u8 (48 + (d : Int))] 5).cell (o := 0) rfl)
        go_simp
        go_wp2_with fail
        refine hK.out _ _ trivial (fun _ => ?_)
        clear hK K cv
        try simp only [Act.put, List.setIfInBounds_toArray, List.set_cons_zero, List.set_cons_succ]
        repeat (refine pt_read (v := ?_) rfl rfl ?_ ?_ ?_; rotate_left; (focus rfl); (focus (intro u hSw; (try dsimp only at hSw); go_simp; (try with_reducible rfl))); (try simp only [Act.put, List.setIfInBounds_toArray, List.set_cons_zero, List.set_cons_succ]))
        refine pt_nil ?_
        go_wp2
        go_ret
        exact ⟨by rw [HD.out]; rfl, HCS.out.alloc _⟩
      · refine act_do rfl rfl ?_ (fun K hK => ?_)
        · rfl
        go_simp
        go_wp2_with fail
        refine hK.out _ _ trivial (fun _ => ?_)
        clear hK K
        try simp only [Act.put, List.setIfInBounds_toArray, List.set_cons_zero, List.set_cons_succ]
        refine pt_fork ?_ ?_
        · refine act_do rfl rfl ?_ (fun K hK => ?_)
          · rfl
          go_simp
          go_wp2_with (go_at_call 41; refine (HIH.out _).mono ?_; rintro e wS ⟨rfl, hx⟩; have HCS := Lib.hid hx; clear hx)
          refine hK.out _ _ trivial (fun _ => ?_)
          clear hK K
          try simp only [Act.put, List.setIfInBounds_toArray, List.set_cons_zero, List.set_cons_succ]
          refine pt_act (act_do rfl rfl ?_ (fun K hK => ?_))
          · rfl
          have cv := HCV.out W0.heap.size wS (((Blk.new W0 #[.int .u8 (48 + (d : Int))] 5).keep HCS.out (by simp)).cell (o := 0) rfl)
          go_simp
          go_wp2_with fail
          refine hK.out _ _ trivial (fun _ => ?_)
          clear hK K cv
          try simp only [Act.put, List.setIfInBounds_toArray, List.set_cons_zero, List.set_cons_succ]
          repeat (refine pt_read (v := ?_) rfl rfl ?_ ?_ ?_; rotate_left; (focus rfl); (focus (intro u hSw; (try dsimp only at hSw); go_simp; (try with_reducible rfl))); (try simp only [Act.put, List.setIfInBounds_toArray, List.set_cons_zero, List.set_cons_succ]))
          refine pt_nil ?_
          go_wp2
          go_ret
          exact ⟨by rw [HD.out]; rfl, (HC0.out.alloc _).trans HCS.out⟩
        · refine act_do rfl rfl ?_ (fun K hK => ?_)
          · rfl
          have cv := HCV.out W0.heap.size _ ((Blk.new W0 #[.int .u8 (48 + (d : Int))] 5).cell (o := 0) rfl)
          go_simp
          go_wp2_with fail
          refine hK.out _ _ trivial (fun _ => ?_)
          clear hK K cv
          try simp only [Act.put, List.setIfInBounds_toArray, List.set_cons_zero, List.set_cons_succ]
          refine pt_act (act_do rfl rfl ?_ (fun K hK => ?_))
          · rfl
          go_simp
          go_wp2_with (go_at_call 41; refine (HIH.out _).mono ?_; rintro e wS ⟨rfl, hx⟩; have HCS := Lib.hid hx; clear hx)
          refine hK.out _ _ trivial (fun _ => ?_)
          clear hK K
          try simp only [Act.put, List.setIfInBounds_toArray, List.set_cons_zero, List.set_cons_succ]
          repeat (refine pt_read (v := ?_) rfl rfl ?_ ?_ ?_; rotate_left; (focus rfl); (focus (intro u hSw; (try dsimp only at hSw); go_simp; (try with_reducible rfl))); (try simp only [Act.put, List.setIfInBounds_toArray, List.set_cons_zero, List.set_cons_succ]))
          refine pt_nil ?_
          go_wp2
          go_ret
          exact ⟨by rw [HD.out]; rfl, (HC0.out.alloc _).trans HCS.out⟩
set_option maxHeartbeats 2000000 in
theorem rLine_any (k n : Int) (h0 : 0 ≤ n) (h1 : n ≤ 65536) (W : World) :
    Calls Tryd.prog 30 #[.agg #[.int .i64 k, .int .i64 n]] W fun e W' => e = .returned (strV (lineL ⟨k, n⟩)) ∧ Chg [] W W' := by
  have HI := Lib.hid (itoa_len h0 h1)
  have HIT : Hid (∀ w0, Calls Tryd.prog 41 #[.int .i64 n] w0 fun e w' => e = .returned (strV (Lib.itoa n)) ∧ Chg [] w0 w') := Lib.hid (fun w0 => by
    have := rNum_any n.toNat (by omega) w0
    rwa [Int.toNat_of_nonneg h0, ← itoa_dec h0] at this)
  obtain ⟨d, hd⟩ : ∃ d, Lib.itoa n = d := ⟨_, rfl⟩
  have e1 : (ByteArray.mk #[114, 117, 110, 32]) ++ (ByteArray.mk d.toArray) = ⟨(runW ++ d).toArray⟩ := ByteArray.mk_append_mk runW d
  have e2 : (ByteArray.mk #[97, 115, 107, 32]) ++ (ByteArray.mk d.toArray) = ⟨(askW ++ d).toArray⟩ := ByteArray.mk_append_mk askW d
  have hsz : d.length ≤ 5 := by rw [← hd]; exact HI.out
  have s1 : (ByteArray.mk #[114, 117, 110, 32]).size + (ByteArray.mk d.toArray).size ≤ 9223372036854775807 := by simp [ByteArray.size]; omega
  have s2 : (ByteArray.mk #[97, 115, 107, 32]).size + (ByteArray.mk d.toArray).size ≤ 9223372036854775807 := by simp [ByteArray.size]; omega
  have r1 := fun w => run_string_add_sum (P := Tryd.prog) (w := w) _ _ s1
  have r2 := fun w => run_string_add_sum (P := Tryd.prog) (w := w) _ _ s2
  rw [e1] at r1
  rw [e2] at r2
  have HRES : Hid (lineL ⟨k, n⟩ = if k = 1 then runW ++ d else askW ++ d) := Lib.hid (by unfold lineL; rw [hd]; split <;> rfl)
  rw [hd] at HIT
  clear s1 s2 e1 e2 hsz hd h0 h1
  by_cases c1 : k = 1
  · subst c1
    go_enter Tryd.func30, Tryd.ntmps30
    go_wp2_with (go_at_call 41; refine (HIT.out _).mono ?_; rintro e w' ⟨rfl, hcg⟩)
    go_ret
    exact ⟨by rw [HRES.out]; rfl, ((Chg.refl _ _).alloc _).trans hcg⟩
  · have c1' : (k == 1) = false := by simpa using c1
    rw [if_neg c1] at HRES
    clear c1
    go_enter Tryd.func30, Tryd.ntmps30
    go_wp2_with (go_at_call 41; refine (HIT.out _).mono ?_; rintro e w' ⟨rfl, hcg⟩)
    go_ret
    exact ⟨by rw [HRES.out]; rfl, ((Chg.refl _ _).alloc _).trans hcg⟩
set_option maxHeartbeats 4000000 in
theorem rPrint_any (va : Option Addr) (vc : Nat) (l : List Ac) (W : World) (hr : ReadsA W (.slice va l.length vc) l) :
    Calls Tryd.prog 18 #[.slice va l.length vc] W fun e W' => e = .returned (.tuple #[strV (printR l).1, .bool (printR l).2]) ∧ Chg [] W W' := by
  obtain ⟨R, hR⟩ : ∃ R, printR l = R := ⟨_, rfl⟩
  rw [hR]
  have hrt := rRight_any va vc l W hr
  have HRT := Lib.hid hrt
  cases hra : rightA l
  · obtain rfl : ([], false) = R := by rw [← hR]; unfold printR; rw [hra]; rfl
    clear hR hrt
    rw [hra] at HRT
    go_enter Tryd.func18, Tryd.ntmps18
    go_wp2_with (go_at_call 12; refine HRT.out.mono ?_; rintro e w1 ⟨rfl, hc1⟩)
    go_ret2
    exact ⟨rfl, hc1⟩
  · obtain rfl : (textL l, true) = R := by rw [← hR]; unfold printR; rw [hra]; rfl
    clear hR hrt
    rw [hra] at HRT
    have HRA := Lib.hid hr
    have HRP := Lib.hid (rightA_parts hra)
    obtain ⟨b1, o1, hx1, hc1, -⟩ := reads_index (P := Tryd.prog) Tryd.underlying22 szAct hr.1
    have HX1 := Lib.hid hx1
    have HC1 := Lib.hid hc1
    clear hr hra hx1 hc1
    go_enter Tryd.func18, Tryd.ntmps18
    go_wp2_with (go_at_call 12; refine HRT.out.mono ?_; rintro e w1 ⟨rfl, hcg1⟩)
    go_loopw [4, 12] (fun o i wr => ∃ j : Nat, j ≤ l.length ∧ i = .int .i64 j ∧ o = strV (textL (l.take j)) ∧ Hid (Chg [] W wr)) (fun _ i _ => l.length - (intOf i).toNat)
    case atStart => exact ⟨0, Nat.zero_le _, rfl, rfl, Lib.hid hcg1⟩
    case round =>
      obtain ⟨j, hj, rfl, rfl, HJ⟩ := hrel
      by_cases hlt : j < l.length
      · have HLT := Lib.hid hlt
        have g1 := HX1.out j hlt
        obtain ⟨⟨k, n⟩, htk⟩ : ∃ t, l[j]? = some t := ⟨_, List.getElem?_eq_getElem hlt⟩
        have q0 := HJ.out.keep (HC1.out (j * 2 + 0) _ (by rw [flatMap_get Ac.cells 2 (fun _ => rfl) l j 0 (by decide) _ htk]; rfl)) (by simp)
        have q1 := HJ.out.keep (HC1.out (j * 2 + 1) _ (by rw [flatMap_get Ac.cells 2 (fun _ => rfl) l j 1 (by decide) _ htk]; rfl)) (by simp)
        rw [Nat.add_zero] at q0
        rw [← Nat.add_assoc] at q1
        have hone : oneB ⟨k, n⟩ = true := List.all_eq_true.1 HRP.out.1 _ (List.mem_of_getElem? htk)
        have HBD := Lib.hid (oneB_bd hone)
        have hll := lineL_len (a := ⟨k, n⟩) HBD.out.1 HBD.out.2
        have HTX := Lib.hid (textL_snoc htk)
        have htl := textL_len (l.take j) (List.all_eq_true.2 fun x hx => List.all_eq_true.1 HRP.out.1 x (List.mem_of_mem_take hx))
        rw [List.length_take] at htl
        obtain ⟨ln, hln⟩ : ∃ ln, lineL ⟨k, n⟩ = ln := ⟨_, rfl⟩
        have HLN := Lib.hid hln
        rw [hln] at hll
        obtain ⟨tx, htx⟩ : ∃ tx, textL (l.take j) = tx := ⟨_, rfl⟩
        rw [htx] at htl HTX
        rw [htx]
        have k8 : IntKind.i64.wrap ((j : Int) + 1) = (j : Int) + 1 := by rw [IntKind.wrap_i64]; have := HRP.out.2.1; omega
        have e1 : (ByteArray.mk tx.toArray) ++ (ByteArray.mk ln.toArray) = ⟨(tx ++ ln).toArray⟩ := ByteArray.mk_append_mk tx ln
        have s1 : (ByteArray.mk tx.toArray).size + (ByteArray.mk ln.toArray).size ≤ 9223372036854775807 := by have := HRP.out.2.1; simp [ByteArray.size]; omega
        have r1 := fun w => run_string_add_sum (P := Tryd.prog) (w := w) _ _ s1
        rw [e1] at r1
        have e2 : (ByteArray.mk (tx ++ ln).toArray) ++ (ByteArray.mk #[10]) = ⟨(tx ++ ln ++ [10]).toArray⟩ := ByteArray.mk_append_mk (tx ++ ln) [10]
        have s2 : (ByteArray.mk (tx ++ ln).toArray).size + (ByteArray.mk #[10]).size ≤ 9223372036854775807 := by have := HRP.out.2.1; simp [ByteArray.size]; omega
        have r2 := fun w => run_string_add_sum (P := Tryd.prog) (w := w) _ _ s2
        rw [e2] at r2
        obtain ⟨t1, ht1⟩ : ∃ t1, tx ++ ln = t1 := ⟨_, rfl⟩
        obtain ⟨t2, ht2⟩ : ∃ t2, tx ++ ln ++ [10] = t2 := ⟨_, rfl⟩
        rw [ht2] at r2
        rw [ht1] at r1 r2
        have HT2 := Lib.hid ht2
        clear htk hj hlt hone hll htl hln s1 e1 s2 e2 htx ht1 ht2
        go_wp2_with (go_at_call 30; refine (rLine_any _ _ HBD.out.1 HBD.out.2 _).mono ?_; rintro e wl ⟨rfl, hcl⟩; rw [HLN.out])
        have hltj := HLT.out
        go_roundw
        case rel => exact ⟨j + 1, by omega, by go_num, by rw [HTX.out, HLN.out, ← List.append_assoc, HT2.out], Lib.hid (HJ.out.trans (((Chg.refl [] _).alloc _).trans hcl))⟩
        case measure => simp [intOf]; omega
      · obtain rfl : l.length = j := by omega
        clear hlt hj
        rw [List.take_length]
        go_wp2
        go_ret2
        exact ⟨rfl, HJ.out⟩
end Go.Proofs.YtldbaommeflooaaDoor.scr
