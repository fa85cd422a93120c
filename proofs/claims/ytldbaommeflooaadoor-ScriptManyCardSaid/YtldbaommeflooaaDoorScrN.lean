/- Scripts: a text by a sign, and the number of digits: R09.Split, R21.Digits. -/
import Derived.Test.YtldbaommeflooaaDoorScrM
namespace Go.Proofs.YtldbaommeflooaaDoor.scr
open Go Go.RowKit Go.Proofs.YtldbaommeflooaaDoor.kit Go.Proofs.YtldbaommeflooaaDoor.word Go.Shelf
set_option linter.unusedVariables false
set_option linter.unusedSimpArgs false
set_option maxRecDepth 20000
set_option maxHeartbeats 2000000 in
theorem Digits_any (s : List UInt8) (hs : s.length ≤ 65536) (W : World) :
    Calls Tryd.prog 35 #[strV s] W fun e W' => e = .returned (.int .i64 (digF s 0 0)) ∧ W = W' := by
  obtain ⟨R, hR⟩ : ∃ R, digF s 0 0 = R := ⟨_, rfl⟩
  rw [hR]
  have HR := Lib.hid hR
  have HLE := Lib.hid hs
  have hsz : (ByteArray.mk s.toArray).size = s.length := by simp [ByteArray.size]
  clear hR hs
  go_enter Tryd.func35, Tryd.ntmps35
  go_wp2
  go_loopw [3, 4] (fun o i wr => ∃ (j : Nat) (n : Int), j ≤ s.length ∧ i = .int .i64 j ∧ o = .int .i64 n ∧ Hid (digF (s.drop j) j n = R ∧ 0 ≤ n ∧ n < 10 ^ j ∧ j ≤ 14) ∧ wr = W) (fun _ i _ => s.length - (intOf i).toNat)
  case atStart => exact ⟨0, 0, Nat.zero_le _, rfl, rfl, Lib.hid ⟨HR.out, by omega, by decide, by omega⟩, rfl⟩
  case round =>
    obtain ⟨j, n, hj, rfl, rfl, HN, rfl⟩ := hrel
    by_cases hlt : j < s.length
    · have HLT := Lib.hid hlt
      obtain ⟨c, hc⟩ : ∃ c, s[j]? = some c := ⟨_, List.getElem?_eq_getElem hlt⟩
      have HSC := Lib.hid (show s.drop j = c :: s.drop (j + 1) by rw [List.drop_eq_getElem_cons hlt]; congr 1; exact (List.getElem?_eq_some_iff.1 hc).2)
      have HDG : Hid (R = if c.toNat < 48 ∨ 57 < c.toNat ∨ 13 < j then -9 else digF (s.drop (j + 1)) (j + 1) (10 * n + ((c.toNat : Int) - 48))) := Lib.hid (by rw [← HN.out.1, HSC.out, digF])
      have hbx : ∀ h, (ByteArray.mk s.toArray)[j]'h = c := fun h => (List.getElem?_eq_some_iff.1 hc).2
      have HCB := Lib.hid (u8_bd c)
      clear hc
      by_cases c1 : c.toNat < 48
      · have m1 : (c.toNat : Int) < 48 := by omega
        obtain rfl : R = -9 := by rw [HDG.out, if_pos (.inl c1)]
        clear c1
        go_wp2
        go_ret
        exact ⟨rfl, rfl⟩
      by_cases c2 : 57 < c.toNat
      · have m1 : ¬ (c.toNat : Int) < 48 := by omega
        have m2 : (57 : Int) < (c.toNat : Int) := by omega
        obtain rfl : R = -9 := by rw [HDG.out, if_pos (.inr (.inl c2))]
        clear c1 c2
        go_wp2
        go_ret
        exact ⟨rfl, rfl⟩
      by_cases c3 : 13 < j
      · have m1 : ¬ (c.toNat : Int) < 48 := by omega
        have m2 : ¬ (57 : Int) < (c.toNat : Int) := by omega
        have m3 : (13 : Int) < (j : Int) := by omega
        obtain rfl : R = -9 := by rw [HDG.out, if_pos (.inr (.inr c3))]
        clear c1 c2 c3
        go_wp2
        go_ret
        exact ⟨rfl, rfl⟩
      have m1 : ¬ (c.toNat : Int) < 48 := by omega
      have m2 : ¬ (57 : Int) < (c.toNat : Int) := by omega
      have m3 : ¬ (13 : Int) < (j : Int) := by omega
      have hdg := HDG.out
      rw [if_neg (by omega)] at hdg
      have hpw : (10 : Int) ^ (j + 1) = 10 * 10 ^ j := by rw [Int.pow_succ]; omega
      have hb : 0 ≤ n ∧ n < 10 ^ j := ⟨HN.out.2.1, HN.out.2.2.1⟩
      have hp13 : (10 : Int) ^ j ≤ 10 ^ 13 := by
        have h := Int.ofNat_le.2 (Nat.pow_le_pow_right (show 0 < 10 by decide) (show j ≤ 13 by omega))
        rwa [Int.natCast_pow, Int.natCast_pow] at h
      rw [show (10 : Int) ^ 13 = 10000000000000 by decide] at hp13
      have k9 : IntKind.i64.wrap (10 * n) = 10 * n := by rw [IntKind.wrap_i64]; omega
      have k10 : IntKind.u8.wrap ((c.toNat : Int) - 48) = (c.toNat : Int) - 48 := by rw [IntKind.wrap_u8]; omega
      have k11 : IntKind.i64.wrap ((c.toNat : Int) - 48) = (c.toNat : Int) - 48 := by rw [IntKind.wrap_i64]; omega
      have k12 : IntKind.i64.wrap (10 * n + ((c.toNat : Int) - 48)) = 10 * n + ((c.toNat : Int) - 48) := by rw [IntKind.wrap_i64]; have := HCB.out; omega
      have k8 : IntKind.i64.wrap ((j : Int) + 1) = (j : Int) + 1 := by rw [IntKind.wrap_i64]; omega
      have HNX : Hid (digF (s.drop (j + 1)) (j + 1) (10 * n + ((c.toNat : Int) - 48)) = R ∧ 0 ≤ 10 * n + ((c.toNat : Int) - 48) ∧ 10 * n + ((c.toNat : Int) - 48) < 10 ^ (j + 1) ∧ j + 1 ≤ 14) := Lib.hid ⟨hdg.symm, by omega, by rw [hpw]; omega, by omega⟩
      clear c1 c2 c3 hdg hpw hb hp13
      go_wp2
      have hltj := HLT.out
      go_roundw
      case rel => exact ⟨j + 1, 10 * n + ((c.toNat : Int) - 48), by omega, by go_num, rfl, HNX, trivial⟩
      case measure => simp [intOf]; omega
    · obtain rfl : s.length = j := by omega
      clear hlt hj
      have hn := HN.out.1
      rw [List.drop_length] at hn
      obtain rfl : n = R := hn
      go_wp2
      go_ret
      exact ⟨rfl, rfl⟩
theorem infoStr : (Tryd.prog.info? 9).map (fun i => (i.zero, i.size, i.bytes)) = some (some (.string ⟨#[]⟩), 1, 16) := by kernel_rfl
theorem szStr : (Tryd.prog.info? 9).map (·.size) = some 1 := by kernel_rfl
def OwnS (w : World) (B : Nat) (v : Value) (ls : List (List UInt8)) : Prop := w.ownsRow B 9 1 v ls.length (ls.map strV)
theorem OwnS.snoc {w : World} {B : Nat} {v : Value} {xs : List (List UInt8)} {x : List UInt8} (h : w.ownsRow B 9 1 v (xs.length + 1) (xs.map strV ++ [strV x])) : OwnS w B v (xs ++ [x]) := by
  unfold OwnS
  rw [List.length_append, List.map_append]
  simpa using h
theorem extract_lst (s : List UInt8) (a b : Nat) : (ByteArray.mk s.toArray).extract a b = ⟨((s.drop a).take (b - a)).toArray⟩ := by
  rw [ByteArray.extract_mk]
theorem one_cell (w : World) (x : Value) (T : TypeId) : ∀ (j : Nat) u, [x][j]? = some u → (w.alloc (.cells #[x] T)).cell? ((⟨w.heap.size, 0, none⟩ : Addr).add j) = some u := fun j u hj => by
  rw [add_plain, Nat.zero_add]
  exact (Blk.new w #[x] T).cell (by simpa using hj)
set_option maxHeartbeats 4000000 in
theorem Split_any (s : List UInt8) (c : UInt8) (hs : s.length ≤ 65536) (W : World) :
    Calls Tryd.prog 34 #[strV s, .int .u8 (c.toNat : Int)] W fun e W' => ∃ v, e = .returned v ∧ OwnS W' W.heap.size v (splitL c s) ∧ Chg [] W W' := by
  have HLE := Lib.hid hs
  have hsz : (ByteArray.mk s.toArray).size = s.length := by simp [ByteArray.size]
  have HI0 := Lib.hid (info_parts infoStr)
  clear hs
  go_enter Tryd.func34, Tryd.ntmps34
  go_wp2
  go_loopw [5, 6, 7] (fun o fr i wr => ∃ (j f : Nat) (acc : List (List UInt8)) (a : Option Addr) (cp : Nat), j ≤ s.length ∧ i = .int .i64 j ∧ fr = .int .i64 f ∧ o = .slice a acc.length cp ∧ Hid (f ≤ j ∧ acc.length ≤ j ∧ splitL c s = acc ++ splitL c (s.drop f) ∧ ∀ b ∈ (s.drop f).take (j - f), b ≠ c) ∧ Hid (OwnS wr W.heap.size (.slice a acc.length cp) acc) ∧ Hid (Chg [] W wr)) (fun _ _ i _ => s.length - (intOf i).toNat)
  case atStart => exact ⟨0, 0, [], none, 0, Nat.zero_le _, rfl, rfl, rfl, Lib.hid ⟨by omega, by simp, rfl, by simp⟩, Lib.hid (World.ownsRow_nil ..), Lib.hid (Chg.refl _ _)⟩
  case round =>
    obtain ⟨j, f, acc, a, cp, hj, rfl, rfl, rfl, HF, HO, HJ⟩ := hrel
    by_cases hlt : j < s.length
    · have HLT := Lib.hid hlt
      obtain ⟨b, hb⟩ : ∃ b, s[j]? = some b := ⟨_, List.getElem?_eq_getElem hlt⟩
      have hbx : ∀ h, (ByteArray.mk s.toArray)[j]'h = b := fun h => (List.getElem?_eq_some_iff.1 hb).2
      have HSC := Lib.hid (show s.drop j = b :: s.drop (j + 1) by rw [List.drop_eq_getElem_cons hlt]; congr 1; exact (List.getElem?_eq_some_iff.1 hb).2)
      have k8 : IntKind.i64.wrap ((j : Int) + 1) = (j : Int) + 1 := by rw [IntKind.wrap_i64]; have := HLE.out; omega
      clear hb
      have HDR : Hid (s.drop f = (s.drop f).take (j - f) ++ b :: s.drop (j + 1)) := Lib.hid (by
        rw [← HSC.out]
        have h1 := List.take_append_drop (j - f) (s.drop f)
        rw [List.drop_drop, Nat.add_sub_cancel' HF.out.1] at h1
        exact h1.symm)
      by_cases c1 : b = c
      · subst c1
        have hsp : splitL b (s.drop f) = (s.drop f).take (j - f) :: splitL b (s.drop (j + 1)) := by
          conv => lhs; rw [HDR.out]
          exact splitL_at _ HF.out.2.2.2
        have HSP : Hid (splitL b s = (acc ++ [(s.drop f).take (j - f)]) ++ splitL b (s.drop (j + 1))) := Lib.hid (by rw [HF.out.2.2.1, hsp]; simp)
        clear hsp
        obtain ⟨p, hp⟩ : ∃ p, (s.drop f).take (j - f) = p := ⟨_, rfl⟩
        have ex : (ByteArray.mk s.toArray).extract f j = ⟨p.toArray⟩ := by rw [extract_lst, hp]
        rw [hp] at HSP
        have q1 : (f : Int) ≤ (j : Int) := by have := HF.out.1; omega
        have q2 : (j : Int) ≤ (s.length : Int) := by omega
        have HAL : Hid (acc.length ≤ 65536) := Lib.hid (by have := HF.out.2.1; have := HLE.out; omega)
        have HOA : Hid (((wr.alloc (.cells #[strV p] 9)).ownsRow W.heap.size 9 1 (.slice a acc.length cp) acc.length (acc.map strV))) := Lib.hid (own_keep HO.out ((Chg.refl [] _).alloc _) (by simp))
        clear hp hj hlt
        obtain ⟨i0, hi, hz0, hz1, hz2⟩ := HI0.out
        go_wp2_with (first | (at_builtin; refine wpList_append_own _ rfl _ _ 66 rfl W.heap.size 9 i0 (.string ⟨#[]⟩) 1 16 Tryd.underlying66 hi hz0 hz1 hz2 rfl (by decide) _ _ _ rfl HOA.out ⟨wr.heap.size, 0, none⟩ 1 1 [strV p] rfl rfl (one_cell _ _ _) ?c2 ?c3 ?c4 ?c5 ?_))
        case c2 => simp [Value.oneCell']
        case c3 => have := HAL.out; unfold maxLen; omega
        case c4 => have := HAL.out; omega
        case c5 => have := HJ.out.size; simp; omega
        intro v' w2 hown' hgrow _
        have HOW := Lib.hid (OwnS.snoc hown')
        have HGR : Hid (Chg [] W w2) := Lib.hid ((HJ.out.alloc _).grown hgrow (fun q hq => .inr (World.ownsRow.lt HOA.out q hq).1))
        obtain ⟨a2, c2, rfl⟩ := own_open hown'
        clear hown' hgrow
        go_wp2
        have hltj := HLT.out
        go_roundw
        case rel => exact ⟨j + 1, j + 1, acc ++ [p], a2, c2, by omega, by go_num, by go_num, by simp, Lib.hid ⟨by omega, by have := HF.out.2.1; simp; omega, HSP.out, by simp⟩, Lib.hid (by simpa using HOW.out), HGR⟩
        case measure => simp [intOf]; omega
      · have c1' : ((b.toNat : Int) == (c.toNat : Int)) = false := by
          have : ¬ b.toNat = c.toNat := fun h => c1 (UInt8.toNat_inj.1 h)
          exact beq_eq_false_iff_ne.2 (by omega)
        have HNN : Hid (∀ x ∈ (s.drop f).take (j + 1 - f), x ≠ c) := Lib.hid (by
          intro x hx
          have hf := HF.out.1
          have e : (s.drop f).take (j + 1 - f) = (s.drop f).take (j - f) ++ [b] := by
            rw [show j + 1 - f = (j - f) + 1 by omega, List.take_add_one, List.getElem?_drop, show f + (j - f) = j by omega]
            congr 1
            have := congrArg (fun l => l[0]?) HSC.out
            simp at this
            simp [this]
          rw [e] at hx
          rcases List.mem_append.1 hx with hx | hx
          · exact HF.out.2.2.2 x hx
          · rw [List.mem_singleton.1 hx]; exact c1)
        clear c1
        go_wp2
        have hltj := HLT.out
        go_roundw
        case rel => exact ⟨j + 1, f, acc, a, cp, by omega, by go_num, rfl, rfl, Lib.hid ⟨by have := HF.out.1; omega, by have := HF.out.2.1; omega, HF.out.2.2.1, HNN.out⟩, HO, HJ⟩
        case measure => simp [intOf]; omega
    · obtain rfl : s.length = j := by omega
      clear hlt hj
      have hfl : (s.drop f).take (s.length - f) = s.drop f := by rw [List.take_of_length_le (by simp)]
      have HSP : Hid (splitL c s = acc ++ [s.drop f]) := Lib.hid (by
        have h1 := HF.out.2.2.2
        rw [hfl] at h1
        rw [HF.out.2.2.1, splitL_no h1])
      obtain ⟨p, hp⟩ : ∃ p, s.drop f = p := ⟨_, rfl⟩
      have ex : (ByteArray.mk s.toArray).extract f s.length = ⟨p.toArray⟩ := by rw [extract_lst, hfl, hp]
      rw [hp] at HSP
      have q1 : (f : Int) ≤ (s.length : Int) := by have := HF.out.1; omega
      have HAL : Hid (acc.length ≤ 65536) := Lib.hid (by have := HF.out.2.1; have := HLE.out; omega)
      have HOA : Hid (((wr.alloc (.cells #[strV p] 9)).ownsRow W.heap.size 9 1 (.slice a acc.length cp) acc.length (acc.map strV))) := Lib.hid (own_keep HO.out ((Chg.refl [] _).alloc _) (by simp))
      clear hp hfl
      obtain ⟨i0, hi, hz0, hz1, hz2⟩ := HI0.out
      go_wp2_with (first | (at_builtin; refine wpList_append_own _ rfl _ _ 66 rfl W.heap.size 9 i0 (.string ⟨#[]⟩) 1 16 Tryd.underlying66 hi hz0 hz1 hz2 rfl (by decide) _ _ _ rfl HOA.out ⟨wr.heap.size, 0, none⟩ 1 1 [strV p] rfl rfl (one_cell _ _ _) ?c2 ?c3 ?c4 ?c5 ?_))
      case c2 => simp [Value.oneCell']
      case c3 => have := HAL.out; unfold maxLen; omega
      case c4 => have := HAL.out; omega
      case c5 => have := HJ.out.size; simp; omega
      intro v' w2 hown' hgrow _
      have HOW := Lib.hid (OwnS.snoc hown')
      have HGR : Hid (Chg [] W w2) := Lib.hid ((HJ.out.alloc _).grown hgrow (fun q hq => .inr (World.ownsRow.lt HOA.out q hq).1))
      go_wp2
      go_ret
      exact ⟨_, rfl, by rw [HSP.out]; exact HOW.out, HGR.out⟩
end Go.Proofs.YtldbaommeflooaaDoor.scr
