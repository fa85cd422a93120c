import Derived.Test.YtkedegbpkkgeaaaGreatTop10
/- TopFits: the reference's objects and tasks: Reader, Right, Plain, Fault. -/
namespace Go.Proofs.YtkedegbpkkgeaaaGreat.tf
open Go Go.RowKit Go.Proofs.YtkedegbpkkgeaaaGreat.kit Go.Proofs.YtkedegbpkkgeaaaGreat.obj Go.Proofs.YtkedegbpkkgeaaaGreat.mem Go.Proofs.YtkedegbpkkgeaaaGreat.lay Go.Proofs.YtkedegbpkkgeaaaGreat.isa
set_option linter.unusedVariables false
set_option linter.unusedSimpArgs false
set_option maxRecDepth 20000

theorem take_snoc {α : Type} {l : List α} {j : Nat} {x : α} (h : l[j]? = some x) : l.take (j + 1) = l.take j ++ [x] := by
  have hj := List.getElem?_eq_some_iff.1 h
  rw [List.take_succ_eq_append_getElem hj.1, hj.2]
set_option maxHeartbeats 2000000 in
theorem rReader_any (k w s c st : Int) (ia : Option Addr) (il ic : Nat) (wr : Int) (ra : Option Addr) (rl rc : Nat) (rds : List Int) (t : Int) (W : World) (hr : ReadsN W (.slice ra rl rc) rds) (hl : rds.length ≤ 1000) :
    Calls Tryz.prog 70 #[.agg #[.int .i64 k, .int .i64 w, .int .i64 s, .int .i64 c, .int .u32 st, .slice ia il ic, .int .i64 wr, .slice ra rl rc], .int .i64 t] W fun e W' => IntP (fun x => 0 ≤ x ↔ t ∈ rds) e ∧ Chg [] W W' := by
  obtain ⟨rfl, b1, o1, hx1, hc1⟩ := ints_at hr
  have HX1 := Lib.hid hx1
  have HC1 := Lib.hid hc1
  have HLEN := Lib.hid hl
  have HCA : Hid (Chg [] W (W.alloc (.cells #[.int .i64 k, .int .i64 w, .int .i64 s, .int .i64 c, .int .u32 st, .slice ia il ic, .int .i64 wr, .slice ra rds.length rc] 46))) := Lib.hid ((Chg.refl [] W).alloc _)
  clear hx1 hc1 hl hr
  go_enter Tryz.func70, Tryz.ntmps70
  go_wp2_with fail
  go_loopw [10] (fun p wr => ∃ j : Nat, j ≤ rds.length ∧ p = .int .i64 j ∧ Hid (t ∉ rds.take j) ∧ Hid (Chg [] W wr)) (fun p _ => rds.length - (intOf p).toNat)
  case atStart => exact ⟨0, Nat.zero_le _, rfl, Lib.hid (by simp), HCA⟩
  case round =>
    obtain ⟨j, hj, rfl, HG, HJ⟩ := hrel
    by_cases hlt : j < rds.length
    · have HLT := Lib.hid hlt
      have m1 : (j : Int) < (rds.length : Int) := by omega
      have g1 := HX1.out j hlt
      obtain ⟨x, htk⟩ : ∃ t, rds[j]? = some t := ⟨_, List.getElem?_eq_getElem hlt⟩
      have q0 := HC1.out wr HJ.out j _ htk
      have k8 : IntKind.i64.wrap ((j : Int) + 1) = (j : Int) + 1 := by rw [IntKind.wrap_i64]; have := HLEN.out; omega
      have HK := Lib.hid htk
      clear htk hj hlt
      by_cases c1 : x = t
      · subst c1
        go_wp2_with fail
        go_ret
        exact ⟨.mk _ rfl ⟨fun _ => List.mem_of_getElem? HK.out, fun _ => by omega⟩, HJ.out⟩
      · have d1 : (x == t) = false := by simpa using c1
        have HN := Lib.hid c1
        clear c1
        go_wp2_with fail
        have hltj := HLT.out
        go_roundw
        case rel => exact ⟨j + 1, by omega, by go_num, Lib.hid (by rw [take_snoc HK.out]; intro hm; rcases List.mem_append.1 hm with hm | hm; exact HG.out hm; simp at hm; exact HN.out hm.symm), HJ⟩
        case measure => simp [intOf]; omega
    · obtain rfl : rds.length = j := by omega
      clear hlt hj
      rw [List.take_length] at HG
      go_wp2_with fail
      go_ret
      exact ⟨.mk _ rfl ⟨fun h => absurd h (by decide), fun h => absurd h HG.out⟩, HJ.out⟩
theorem own_lit1 (w : World) (x : Int) : (w.alloc (.cells #[.int .i64 x] 3)).ownsRow w.heap.size 3 1 (.slice (some ⟨w.heap.size, 0, none⟩) 1 1) 1 [.int .i64 x] :=
  World.ownsRow_lit w #[.int .i64 x] 1 (Nat.le_refl _) (by decide) rfl
theorem ints_one (l : List Int) : ∀ u ∈ l.map (Value.int .i64), u.oneCell' = true := by
  intro u hu
  obtain ⟨x, _, rfl⟩ := List.mem_map.1 hu
  rfl
/-- whom an object has -/
structure WhoP (l : List Int) : Prop where
  nd : l.Nodup
  rg : ∀ x ∈ l, 0 ≤ x ∧ x ≤ 7
theorem nodup_of {l : List Int} (h : ∀ a : Nat, a < l.length → ∀ b : Nat, b < a → ∀ x y, l[a]? = some x → l[b]? = some y → y ≠ x) : l.Nodup := by
  rw [List.Nodup, List.pairwise_iff_getElem]
  intro b a hb ha hba
  exact h a ha b hba _ _ (List.getElem?_eq_getElem ha) (List.getElem?_eq_getElem hb)
set_option maxHeartbeats 4000000 in
theorem r20Right_any (k w s c st : Int) (ia : Option Addr) (il ic : Nat) (wr : Int) (ra : Option Addr) (rl rc : Nat) (rds : List Int) (W : World) (hr : ReadsN W (.slice ra rl rc) rds) (hl : rds.length ≤ 1000) (h : ObjW k w s c st il rl) :
    Calls Tryz.prog 30 #[.agg #[.int .i64 k, .int .i64 w, .int .i64 s, .int .i64 c, .int .u32 st, .slice ia il ic, .int .i64 wr, .slice ra rl rc]] W fun e W' => BoolP (fun r => r = true → rightB k w s c st il rl = true ∧ WhoP (wr :: rds)) e ∧ Chg [] W W' := by
  have HRD := Lib.hid hr
  obtain ⟨rfl, -⟩ := ints_at hr
  have HRR := Lib.hid (fun V => rRight_any k w s c st ia il ic wr ra rds.length rc h V)
  obtain ⟨g, hg⟩ : ∃ g, rightB k w s c st il rds.length = g := ⟨_, rfl⟩
  rw [hg] at HRR ⊢
  have HLEN := Lib.hid hl
  have HCA : Hid (Chg [] W (W.alloc (.cells #[.int .i64 k, .int .i64 w, .int .i64 s, .int .i64 c, .int .u32 st, .slice ia il ic, .int .i64 wr, .slice ra rds.length rc] 46))) := Lib.hid ((Chg.refl [] W).alloc _)
  have HBA : Hid (Blk (W.alloc (.cells #[.int .i64 k, .int .i64 w, .int .i64 s, .int .i64 c, .int .u32 st, .slice ia il ic, .int .i64 wr, .slice ra rds.length rc] 46)) W.heap.size #[.int .i64 k, .int .i64 w, .int .i64 s, .int .i64 c, .int .u32 st, .slice ia il ic, .int .i64 wr, .slice ra rds.length rc] 46) := Lib.hid (Blk.new _ _ _)
  clear hl hr h hg
  cases g
  · go_enter Tryz.func30, Tryz.ntmps30
    go_wp2_with (go_at_call 69; refine (HRR.out _).mono ?_; rintro e w1 ⟨rfl, hc1⟩; have HCX := Lib.hid (HCA.out.trans hc1); clear hc1)
    go_ret
    exact ⟨.mk false rfl (fun h => absurd h (by decide)), HCX.out⟩
  · obtain ⟨i0, hi0, hz0, hz1, hz2⟩ := info_parts infoInt
    go_enter Tryz.func30, Tryz.ntmps30
    go_wp2_with (first
      | (go_at_call 69; refine (HRR.out _).mono ?_; rintro e w1 ⟨rfl, hc1⟩; have hb1 := HBA.out.keep hc1 (by simp); have e6 := hb1.cell (o := 6) (v := .int .i64 wr) rfl; have e7 := (hb1.alloc (.cells #[.int .i64 wr] 3)).cell (o := 7) (v := .slice ra rds.length rc) rfl; have HCX := Lib.hid (HCA.out.trans hc1); clear hc1 hb1)
      | (at_builtin; refine wpList_append_any _ rfl _ _ 33 rfl w1.heap.size 3 i0 (.int .i64 0) 1 8 Tryz.underlying33 hi0 hz0 hz1 hz2 rfl (by decide) (.slice (some ⟨w1.heap.size, 0, none⟩) 1 1) 1 _ rfl (own_lit1 w1 wr) (.slice ra rds.length rc) rds.length _ rfl (Reads.alloc (HRD.out.chg HCX.out) _) (ints_one _) ?c3 ?c4 ?c5 ?_))
    case c3 => have := HLEN.out; unfold maxLen; omega
    case c4 => have := HLEN.out; omega
    case c5 => simp
    intro v' w2 hown' hgrow
    obtain ⟨a2, c2, rfl⟩ := own_open hown'
    have HC2 : Hid (Chg [] W w2) := Lib.hid ((HCX.out.alloc _).grown hgrow (fun q hq => .inr (by simp [Value.ownBlock] at hq; have := HCX.out.size; omega)))
    obtain ⟨l, hl⟩ : ∃ l, wr :: rds = l := ⟨_, rfl⟩
    have hrl : ReadsN w2 (.slice a2 (1 + rds.length) c2) l := by
      have := Reads.of_own hown' (by decide)
      rw [← hl]
      unfold ReadsN
      rwa [List.length_cons, Nat.add_comm rds.length 1]
    obtain ⟨hln, -⟩ := ints_at hrl
    rw [hln] at hrl ⊢
    obtain ⟨-, b1, o1, hx1, hc1⟩ := ints_at hrl
    have HX1 := Lib.hid hx1
    have HC1 := Lib.hid hc1
    have HLN : Hid (l.length ≤ 1001) := Lib.hid (by have := HLEN.out; omega)
    have HL := Lib.hid hl
    clear hx1 hc1 hrl hown' hgrow e6 e7 hln hl hi0 hz0 hz1 hz2
    go_wp2_with fail
    go_loopw [18] (fun p wr => ∃ j : Nat, j ≤ l.length ∧ p = .int .i64 j ∧ Hid (∀ x ∈ l.take j, 0 ≤ x ∧ x ≤ 7) ∧ Hid (∀ a : Nat, a < j → ∀ b : Nat, b < a → ∀ x y, l[a]? = some x → l[b]? = some y → y ≠ x) ∧ Hid (Chg [] w2 wr)) (fun p _ => l.length - (intOf p).toNat)
    case atStart => exact ⟨0, Nat.zero_le _, rfl, Lib.hid (by simp), Lib.hid (fun a h => by omega), Lib.hid (Chg.refl _ _)⟩
    case round =>
      obtain ⟨j, hj, rfl, HG, HG2, HJ⟩ := hrel
      by_cases hlt : j < l.length
      · have HLT := Lib.hid hlt
        have m1 : (j : Int) < (l.length : Int) := by omega
        have g1 := HX1.out j hlt
        obtain ⟨x, htk⟩ : ∃ t, l[j]? = some t := ⟨_, List.getElem?_eq_getElem hlt⟩
        have q0 := HC1.out wr HJ.out j _ htk
        have k8 : IntKind.i64.wrap ((j : Int) + 1) = (j : Int) + 1 := by rw [IntKind.wrap_i64]; have := HLN.out; omega
        have HK := Lib.hid htk
        clear htk hj hlt
        by_cases c1 : x < 0
        · go_wp2_with fail
          go_ret
          exact ⟨.mk false rfl (fun h => absurd h (by decide)), HC2.out.trans HJ.out⟩
        · by_cases c2 : 7 < x
          · go_wp2_with fail
            go_ret
            exact ⟨.mk false rfl (fun h => absurd h (by decide)), HC2.out.trans HJ.out⟩
          · have HXR : Hid (0 ≤ x ∧ x ≤ 7) := Lib.hid (by omega)
            go_wp2_with fail
            clear c1 c2 q0 g1
            go_loopw [6] (fun p wr => ∃ i : Nat, i ≤ j ∧ p = .int .i64 i ∧ Hid (∀ b : Nat, b < i → ∀ y, l[b]? = some y → y ≠ x) ∧ Hid (Chg [] w2 wr)) (fun p _ => j - (intOf p).toNat)
            case atStart => exact ⟨0, Nat.zero_le _, rfl, Lib.hid (fun a h => by omega), HJ⟩
            case round =>
              clear HJ
              obtain ⟨i, hi, rfl, HGI, HJ⟩ := hrel
              by_cases hij : i < j
              · have HIJ := Lib.hid hij
                have m2 : (i : Int) < (j : Int) := by omega
                have hil : i < l.length := by have := HLT.out; omega
                have g2 := HX1.out i hil
                obtain ⟨y, hyk⟩ : ∃ t, l[i]? = some t := ⟨_, List.getElem?_eq_getElem hil⟩
                have q2 := HC1.out wr HJ.out i _ hyk
                have k9 : IntKind.i64.wrap ((i : Int) + 1) = (i : Int) + 1 := by rw [IntKind.wrap_i64]; have := HLN.out; omega
                have HY := Lib.hid hyk
                clear hyk hij hil hi
                by_cases c3 : y = x
                · subst c3
                  go_wp2_with fail
                  go_ret
                  exact ⟨.mk false rfl (fun h => absurd h (by decide)), HC2.out.trans HJ.out⟩
                · have d1 : (y == x) = false := by simpa using c3
                  have HNE := Lib.hid c3
                  clear c3
                  go_wp2_with fail
                  go_roundw
                  case rel => exact ⟨i + 1, by have := HIJ.out; omega, by go_num, Lib.hid (fun b hb z hz => by
                    by_cases e : b = i
                    · subst e; rw [HY.out] at hz; cases hz; exact HNE.out
                    · exact HGI.out b (by omega) z hz), HJ⟩
                  case measure => have := HIJ.out; simp [intOf]; omega
              · obtain rfl : j = i := by omega
                have m2 : ¬ (j : Int) < (j : Int) := by omega
                clear hij hi
                go_wp2_with fail
                have hltj := HLT.out
                go_roundw
                case rel => exact ⟨j + 1, by omega, by go_num, Lib.hid (by
                  rw [take_snoc HK.out]
                  intro z hz
                  rcases List.mem_append.1 hz with hz | hz
                  · exact HG.out z hz
                  · simp at hz; subst hz; exact HXR.out), Lib.hid (fun a ha b hb z y hz hy => by
                    by_cases e : a = j
                    · subst e; rw [HK.out] at hz; cases hz; exact HGI.out b hb y hy
                    · exact HG2.out a (by omega) b hb z y hz hy), HJ⟩
                case measure => simp [intOf]; omega
      · obtain rfl : l.length = j := by omega
        clear hlt hj
        rw [List.take_length] at HG
        go_wp2_with fail
        go_ret
        exact ⟨.mk true rfl (fun _ => ⟨by first | rfl | trivial, by rw [HL.out]; exact ⟨nodup_of HG2.out, HG.out⟩⟩), HC2.out.trans HJ.out⟩
def plainP (k p pe o d ow : Int) : Prop := (k = 1 ∨ k = 2 ∧ o = 0) ∧ (0 ≤ p ∧ p ≤ 255) ∧ (1 ≤ pe ∧ pe ≤ 1048576) ∧ (0 ≤ o ∧ o ≤ 1048576) ∧ (1 ≤ d ∧ d ≤ pe) ∧ 1 ≤ ow ∧ ow ≤ 64
set_option maxHeartbeats 8000000 in
theorem r26Plain_any (k p pe o d ow : Int) (ca : Option Addr) (cl cc : Nat) (W : World) :
    Calls Tryz.prog 67 #[.agg #[.int .i64 k, .int .i64 p, .int .i64 pe, .int .i64 o, .int .i64 d, .int .i64 ow, .slice ca cl cc]] W fun e W' => BoolP (fun r => r = true → plainP k p pe o d ow) e ∧ Chg [] W W' := by
  have HCA : Hid (Chg [] W (W.alloc (.cells #[.int .i64 k, .int .i64 p, .int .i64 pe, .int .i64 o, .int .i64 d, .int .i64 ow, .slice ca cl cc] 31))) := Lib.hid ((Chg.refl [] W).alloc _)
  have hk : (k = 1 ∨ (k = 2 ∧ o = 0)) ∨ (k ≠ 1 ∧ k = 2 ∧ o ≠ 0) ∨ (k ≠ 1 ∧ k ≠ 2) := by omega
  rcases hk with hk | ⟨n1, rfl, n3⟩ | ⟨n1, n2⟩
  rotate_left
  · have d3 : (o == 0) = false := by simpa using n3
    clear n1 n3
    go_enter Tryz.func67, Tryz.ntmps67
    go_wp2_with fail
    go_ret
    exact ⟨.mk false rfl (fun h => absurd h (by decide)), HCA.out⟩
  · have d1 : (k == 1) = false := by simpa using n1
    have d2 : (k == 2) = false := by simpa using n2
    clear n1 n2
    go_enter Tryz.func67, Tryz.ntmps67
    go_wp2_with fail
    go_ret
    exact ⟨.mk false rfl (fun h => absurd h (by decide)), HCA.out⟩
  by_cases c0 : 0 ≤ p
  rotate_left
  · have n0 : p < 0 := by omega
    rcases hk with rfl | ⟨rfl, rfl⟩
    · go_enter Tryz.func67, Tryz.ntmps67
      go_wp2_with fail
      go_ret
      exact ⟨.mk false (by first | rfl | simp [*]) (fun h => absurd h (by decide)), HCA.out⟩
    · first
      | omega
      | (go_enter Tryz.func67, Tryz.ntmps67
         go_wp2_with fail
         go_ret
         exact ⟨.mk false (by first | rfl | simp [*]) (fun h => absurd h (by decide)), HCA.out⟩)
  by_cases c1 : p ≤ 255
  rotate_left
  · have n1 : 255 < p := by omega
    rcases hk with rfl | ⟨rfl, rfl⟩
    · go_enter Tryz.func67, Tryz.ntmps67
      go_wp2_with fail
      go_ret
      exact ⟨.mk false (by first | rfl | simp [*]) (fun h => absurd h (by decide)), HCA.out⟩
    · first
      | omega
      | (go_enter Tryz.func67, Tryz.ntmps67
         go_wp2_with fail
         go_ret
         exact ⟨.mk false (by first | rfl | simp [*]) (fun h => absurd h (by decide)), HCA.out⟩)
  by_cases c2 : 1 ≤ pe
  rotate_left
  · have n2 : pe < 1 := by omega
    rcases hk with rfl | ⟨rfl, rfl⟩
    · go_enter Tryz.func67, Tryz.ntmps67
      go_wp2_with fail
      go_ret
      exact ⟨.mk false (by first | rfl | simp [*]) (fun h => absurd h (by decide)), HCA.out⟩
    · first
      | omega
      | (go_enter Tryz.func67, Tryz.ntmps67
         go_wp2_with fail
         go_ret
         exact ⟨.mk false (by first | rfl | simp [*]) (fun h => absurd h (by decide)), HCA.out⟩)
  by_cases c3 : pe ≤ 1048576
  rotate_left
  · have n3 : 1048576 < pe := by omega
    rcases hk with rfl | ⟨rfl, rfl⟩
    · go_enter Tryz.func67, Tryz.ntmps67
      go_wp2_with fail
      go_ret
      exact ⟨.mk false (by first | rfl | simp [*]) (fun h => absurd h (by decide)), HCA.out⟩
    · first
      | omega
      | (go_enter Tryz.func67, Tryz.ntmps67
         go_wp2_with fail
         go_ret
         exact ⟨.mk false (by first | rfl | simp [*]) (fun h => absurd h (by decide)), HCA.out⟩)
  by_cases c4 : 0 ≤ o
  rotate_left
  · have n4 : o < 0 := by omega
    rcases hk with rfl | ⟨rfl, rfl⟩
    · go_enter Tryz.func67, Tryz.ntmps67
      go_wp2_with fail
      go_ret
      exact ⟨.mk false (by first | rfl | simp [*]) (fun h => absurd h (by decide)), HCA.out⟩
    · first
      | omega
      | (go_enter Tryz.func67, Tryz.ntmps67
         go_wp2_with fail
         go_ret
         exact ⟨.mk false (by first | rfl | simp [*]) (fun h => absurd h (by decide)), HCA.out⟩)
  by_cases c5 : o ≤ 1048576
  rotate_left
  · have n5 : 1048576 < o := by omega
    rcases hk with rfl | ⟨rfl, rfl⟩
    · go_enter Tryz.func67, Tryz.ntmps67
      go_wp2_with fail
      go_ret
      exact ⟨.mk false (by first | rfl | simp [*]) (fun h => absurd h (by decide)), HCA.out⟩
    · first
      | omega
      | (go_enter Tryz.func67, Tryz.ntmps67
         go_wp2_with fail
         go_ret
         exact ⟨.mk false (by first | rfl | simp [*]) (fun h => absurd h (by decide)), HCA.out⟩)
  by_cases c6 : 1 ≤ d
  rotate_left
  · have n6 : d < 1 := by omega
    rcases hk with rfl | ⟨rfl, rfl⟩
    · go_enter Tryz.func67, Tryz.ntmps67
      go_wp2_with fail
      go_ret
      exact ⟨.mk false (by first | rfl | simp [*]) (fun h => absurd h (by decide)), HCA.out⟩
    · first
      | omega
      | (go_enter Tryz.func67, Tryz.ntmps67
         go_wp2_with fail
         go_ret
         exact ⟨.mk false (by first | rfl | simp [*]) (fun h => absurd h (by decide)), HCA.out⟩)
  by_cases c7 : d ≤ pe
  rotate_left
  · have n7 : pe < d := by omega
    rcases hk with rfl | ⟨rfl, rfl⟩
    · go_enter Tryz.func67, Tryz.ntmps67
      go_wp2_with fail
      go_ret
      exact ⟨.mk false (by first | rfl | simp [*]) (fun h => absurd h (by decide)), HCA.out⟩
    · first
      | omega
      | (go_enter Tryz.func67, Tryz.ntmps67
         go_wp2_with fail
         go_ret
         exact ⟨.mk false (by first | rfl | simp [*]) (fun h => absurd h (by decide)), HCA.out⟩)
  by_cases c8 : 1 ≤ ow
  rotate_left
  · have n8 : ow < 1 := by omega
    rcases hk with rfl | ⟨rfl, rfl⟩
    · go_enter Tryz.func67, Tryz.ntmps67
      go_wp2_with fail
      go_ret
      exact ⟨.mk false (by first | rfl | simp [*]) (fun h => absurd h (by decide)), HCA.out⟩
    · first
      | omega
      | (go_enter Tryz.func67, Tryz.ntmps67
         go_wp2_with fail
         go_ret
         exact ⟨.mk false (by first | rfl | simp [*]) (fun h => absurd h (by decide)), HCA.out⟩)
  by_cases c9 : ow ≤ 64
  rotate_left
  · have n9 : 64 < ow := by omega
    rcases hk with rfl | ⟨rfl, rfl⟩
    · go_enter Tryz.func67, Tryz.ntmps67
      go_wp2_with fail
      go_ret
      exact ⟨.mk false (by first | rfl | simp [*]) (fun h => absurd h (by decide)), HCA.out⟩
    · first
      | omega
      | (go_enter Tryz.func67, Tryz.ntmps67
         go_wp2_with fail
         go_ret
         exact ⟨.mk false (by first | rfl | simp [*]) (fun h => absurd h (by decide)), HCA.out⟩)
  have HP : Hid (plainP k p pe o d ow) := Lib.hid (by unfold plainP; omega)
  rcases hk with rfl | ⟨rfl, rfl⟩
  · go_enter Tryz.func67, Tryz.ntmps67
    go_wp2_with fail
    go_ret
    exact ⟨.mk true (by first | rfl | simp [*]) (fun _ => HP.out), HCA.out⟩
  · go_enter Tryz.func67, Tryz.ntmps67
    go_wp2_with fail
    go_ret
    exact ⟨.mk true (by first | rfl | simp [*]) (fun _ => HP.out), HCA.out⟩
set_option maxHeartbeats 2000000 in
theorem r26Fault_any (k p pe o d ow : Int) (ca : Option Addr) (cl cc : Nat) (code : List Ins) (W : World) (hr : ReadsC W (.slice ca cl cc) code) :
    Calls Tryz.prog 29 #[.agg #[.int .i64 k, .int .i64 p, .int .i64 pe, .int .i64 o, .int .i64 d, .int .i64 ow, .slice ca cl cc]] W fun e W' => CodeI (fun x => x = 0 → plainP k p pe o d ow ∧ FineP code) e ∧ Chg [] W W' := by
  have HRD := Lib.hid hr
  obtain ⟨rfl, -⟩ := code_at hr
  have HP := Lib.hid (fun V => r26Plain_any k p pe o d ow ca code.length cc V)
  have HK := Lib.hid (fun V (hV : Chg [] W V) => rCheck_any ca cc code V (HRD.out.chg hV))
  have HCA : Hid (Chg [] W (W.alloc (.cells #[.int .i64 k, .int .i64 p, .int .i64 pe, .int .i64 o, .int .i64 d, .int .i64 ow, .slice ca code.length cc] 31))) := Lib.hid ((Chg.refl [] W).alloc _)
  have HBA : Hid (Blk (W.alloc (.cells #[.int .i64 k, .int .i64 p, .int .i64 pe, .int .i64 o, .int .i64 d, .int .i64 ow, .slice ca code.length cc] 31)) W.heap.size #[.int .i64 k, .int .i64 p, .int .i64 pe, .int .i64 o, .int .i64 d, .int .i64 ow, .slice ca code.length cc] 31) := Lib.hid (Blk.new _ _ _)
  clear hr
  go_enter Tryz.func29, Tryz.ntmps29
  go_wp2_with (first
    | (go_at_call 67; refine (HP.out _).mono ?_; rintro e w1 ⟨⟨r, rfl, hp⟩, hc1⟩; have hb1 := HBA.out.keep hc1 (by simp); have e6 := hb1.cell (o := 6) (v := .slice ca code.length cc) rfl; have HCX := Lib.hid (HCA.out.trans hc1); have HPP := Lib.hid hp; clear hc1 hb1 hp; cases r)
    | (go_at_call 68; refine (HK.out _ HCX.out).mono ?_; rintro e w2 ⟨⟨v, x, rfl, hx⟩, hc2⟩; have HCY := Lib.hid (HCX.out.trans hc2); have HFX := Lib.hid hx; clear hc2 hx; rcases (show x = 0 ∨ (x == 0) = false from by by_cases h : x = 0; exact .inl h; exact .inr (by simpa using h)) with rfl | d0))
  · go_ret2
    exact ⟨.mk _ _ rfl (fun h => absurd h (by decide)), HCX.out⟩
  · go_ret2
    exact ⟨.mk _ _ rfl (fun h => ⟨HPP.out (by first | rfl | trivial), HFX.out (by first | rfl | trivial)⟩), HCY.out⟩
  · go_ret2
    exact ⟨.mk _ _ rfl (fun h => by subst h; simp at d0), HCY.out⟩
end Go.Proofs.YtkedegbpkkgeaaaGreat.tf
/- TopFits: flow: its small functions and closures. -/
namespace Go.Proofs.YtkedegbpkkgeaaaGreat.tf
open Go Go.RowKit Go.Proofs.YtkedegbpkkgeaaaGreat.kit Go.Proofs.YtkedegbpkkgeaaaGreat.obj Go.Proofs.YtkedegbpkkgeaaaGreat.mem Go.Proofs.YtkedegbpkkgeaaaGreat.lay Go.Proofs.YtkedegbpkkgeaaaGreat.isa
set_option linter.unusedVariables false
set_option linter.unusedSimpArgs false
set_option maxRecDepth 20000

theorem has_any (a b pc : Int) (w : World) : Calls Tryz.prog 158 #[.agg #[.int .i64 a, .int .i64 b], .int .i64 pc] w fun e w' => e = .returned (.bool (hasL (a, b) pc)) ∧ Chg [] w w' := by
  obtain ⟨r, hr⟩ : ∃ r, hasL (a, b) pc = r := ⟨_, rfl⟩
  have HR := Lib.hid hr
  have HC : Hid (Chg [] w (w.alloc (.cells #[.int .i64 a, .int .i64 b] 117))) := Lib.hid ((Chg.refl [] w).alloc _)
  rw [hr]
  clear hr
  by_cases h1 : a ≤ pc
  · by_cases h2 : pc ≤ b
    · obtain rfl : true = r := by rw [← HR.out]; simp [hasL, h1, h2]
      go_enter Tryz.func158, Tryz.ntmps158
      go_wp2
      go_ret
      exact ⟨by first | rfl | simp [h1, h2], HC.out⟩
    · obtain rfl : false = r := by rw [← HR.out]; simp [hasL, h1, h2]
      go_enter Tryz.func158, Tryz.ntmps158
      go_wp2
      go_ret
      exact ⟨by first | rfl | simp [h1, h2], HC.out⟩
  · obtain rfl : false = r := by rw [← HR.out]; simp [hasL, h1]
    go_enter Tryz.func158, Tryz.ntmps158
    go_wp2
    go_ret
    exact ⟨by first | rfl | simp [h1], HC.out⟩
theorem overlaps_any (s1 s2 a1 a2 : Int) (h : ¬ (a1 < s1 ∧ s1 ≤ a2)) (w : World) : Calls Tryz.prog 137 #[.agg #[.int .i64 s1, .int .i64 s2], .agg #[.int .i64 a1, .int .i64 a2]] w fun e w' => e = .returned (.bool false) ∧ Chg [] w w' := by
  have HC : Hid (Chg [] w ((w.alloc (.cells #[.int .i64 s1, .int .i64 s2] 117)).alloc (.cells #[.int .i64 a1, .int .i64 a2] 117))) := Lib.hid (((Chg.refl [] w).alloc _).alloc _)
  have f0 : ∀ x, ((w.alloc (.cells #[.int .i64 s1, .int .i64 s2] 117)).alloc x).cell? ⟨w.heap.size, 0, none⟩ = some (.int .i64 s1) := fun x => ((Blk.new w _ _).alloc x).cell rfl
  by_cases h1 : a1 < s1
  · have h2 : ¬ s1 ≤ a2 := fun h2 => h ⟨h1, h2⟩
    clear h
    go_enter Tryz.func137, Tryz.ntmps137
    go_wp2
    go_ret
    exact ⟨by first | rfl | simp [h1, h2], HC.out⟩
  · clear h
    go_enter Tryz.func137, Tryz.ntmps137
    go_wp2
    go_ret
    exact ⟨by first | rfl | simp [h1], HC.out⟩
set_option maxHeartbeats 2000000 in
theorem loops_any (sa : Option Addr) (sc : Nat) (p : List Ins) (W : World) (hr : ReadsC W (.slice sa p.length sc) p) (hlen : p.length ≤ 64) :
    Calls Tryz.prog 134 #[.slice sa p.length sc] W fun e W' => ∃ a c, e = .returned (.slice a (loopsF 0 p).length c) ∧ OwnS W' W.heap.size (.slice a (loopsF 0 p).length c) (loopsF 0 p) ∧ Chg [] W W' := by
  obtain ⟨-, b1, o1, hx1, hc1⟩ := code_at hr
  have HX1 := Lib.hid hx1
  have HC1 := Lib.hid hc1
  have HW := Lib.hid hr.2
  have HLEN := Lib.hid hlen
  obtain ⟨i0, hi0, hz0, hz1, hz2⟩ := info_parts infoSpan
  have HI := Lib.hid (And.intro hi0 (And.intro hz0 (And.intro hz1 hz2)))
  clear hx1 hc1 hr hlen hi0 hz0 hz1 hz2
  go_enter Tryz.func134, Tryz.ntmps134
  go_wp2
  go_loopw [3, 8] (fun o i wr => ∃ (j : Nat) (a : Option Addr) (c : Nat), j ≤ p.length ∧ i = .int .i64 j ∧ o = .slice a (loopsF 0 (p.take j)).length c ∧ Hid (OwnS wr W.heap.size (.slice a (loopsF 0 (p.take j)).length c) (loopsF 0 (p.take j))) ∧ Hid (Chg [] W wr)) (fun _ i _ => p.length - (intOf i).toNat)
  case atStart => exact ⟨0, none, 0, Nat.zero_le _, rfl, rfl, Lib.hid (World.ownsRow_nil ..), Lib.hid (Chg.refl _ _)⟩
  case round =>
    obtain ⟨j, a, c, hj, rfl, rfl, HO, HJ⟩ := hrel
    by_cases hlt : j < p.length
    · have HLT := Lib.hid hlt
      have g1 := HX1.out j hlt
      obtain ⟨⟨op, ia, ib, ic, nn⟩, htk⟩ : ∃ t, p[j]? = some t := ⟨_, List.getElem?_eq_getElem hlt⟩
      obtain ⟨q0, q1, q2, q3, q4⟩ := HC1.out wr HJ.out j _ htk
      have kn := wrap64_u32 (HW.out _ (List.mem_of_getElem? htk))
      simp only at q0 q1 q2 q3 q4 kn
      have HSN := Lib.hid (loopsF_take htk)
      have hll := loopsF_len 0 (p.take j)
      rw [List.length_take] at hll
      obtain ⟨xs, hxs⟩ : ∃ xs, loopsF 0 (p.take j) = xs := ⟨_, rfl⟩
      rw [hxs] at HO HSN hll
      rw [hxs]
      have HLL : Hid (xs.length ≤ 64) := Lib.hid (by have := HLEN.out; omega)
      have k8 : IntKind.i64.wrap ((j : Int) + 1) = (j : Int) + 1 := by rw [IntKind.wrap_i64]; have := HLEN.out; omega
      have HBA := Lib.hid (Blk.new wr #[.int .i64 op, .int .i64 ia, .int .i64 ib, .int .i64 ic, .int .u32 nn] 53)
      clear htk hj hll hxs hlt
      by_cases c1 : op = 16
      · subst c1
        simp only [if_pos] at HSN
        have HOA : Hid (OwnS ((wr.alloc (.cells #[.int .i64 16, .int .i64 ia, .int .i64 ib, .int .i64 ic, .int .u32 nn] 53)).alloc (.cells #[.int .i64 nn, .int .i64 (j : Int)] 117)) W.heap.size (.slice a xs.length c) xs) := Lib.hid (own_keep HO.out (((Chg.refl [] wr).alloc _).alloc _) (by simp))
        have HBN : Hid (Blk ((wr.alloc (.cells #[.int .i64 16, .int .i64 ia, .int .i64 ib, .int .i64 ic, .int .u32 nn] 53)).alloc (.cells #[.int .i64 nn, .int .i64 (j : Int)] 117)) (wr.heap.size + 1) #[.int .i64 nn, .int .i64 (j : Int)] 117) := Lib.hid (by
          have := Blk.new (wr.alloc (.cells #[.int .i64 16, .int .i64 ia, .int .i64 ib, .int .i64 ic, .int .u32 nn] 53)) #[.int .i64 nn, .int .i64 (j : Int)] 117
          rwa [show (wr.alloc (.cells #[.int .i64 16, .int .i64 ia, .int .i64 ib, .int .i64 ic, .int .u32 nn] 53)).heap.size = wr.heap.size + 1 by simp] at this)
        obtain ⟨hi0, hz0, hz1, hz2⟩ := HI.out
        go_wp2_with (first | (at_builtin; refine wpList_append_row (o := ⟨some 23, _, _, _, _, _⟩) rfl (.tmp 16) (.tmp 22) 113 rfl W.heap.size 117 i0 (.agg #[.int .i64 0, .int .i64 0]) 2 16 Tryz.underlying113 hi0 hz0 hz1 hz2 rfl (by decide) (.slice a xs.length c) xs.length (xs.flatMap spc) rfl HOA.out (wr.heap.size + 1) [.int .i64 nn, .int .i64 (j : Int)] rfl rfl (fun j u hu => HBN.out.cell (by rw [← Array.getElem?_toList]; exact hu)) ?c2 ?c3 ?c4 ?c5 ?_))
        case c2 => simp [Value.oneCell']
        case c3 => have := HLL.out; unfold maxLen; omega
        case c4 => have := HLL.out; omega
        case c5 => have := HJ.out.size; simp; omega
        intro v' w2 hown' hgrow _
        have HOW := Lib.hid (OwnS.snoc hown')
        have HGR : Hid (Chg [] W w2) := Lib.hid (((HJ.out.alloc _).alloc _).grown hgrow (fun q hq => .inr (World.ownsRow.lt HOA.out q hq).1))
        obtain ⟨a2, c2, rfl⟩ := own_open hown'
        clear hown' hgrow
        go_wp2
        have hltj := HLT.out
        go_roundw
        case rel => exact ⟨j + 1, a2, c2, by omega, by go_num, by rw [HSN.out]; simp, Lib.hid (by rw [HSN.out]; simpa using HOW.out), HGR⟩
        case measure => simp [intOf]; omega
      · have c1' : (op == 16) = false := by simpa using c1
        simp only [if_neg c1, List.append_nil] at HSN
        clear c1
        go_wp2
        have hltj := HLT.out
        go_roundw
        case rel => exact ⟨j + 1, a, c, by omega, by go_num, by rw [HSN.out], Lib.hid (by rw [HSN.out]; exact own_keep HO.out ((Chg.refl [] _).alloc _) (by simp)), Lib.hid (HJ.out.alloc _)⟩
        case measure => simp [intOf]; omega
    · obtain rfl : p.length = j := by omega
      clear hlt hj
      rw [List.take_length] at HO
      rw [List.take_length]
      go_wp2
      go_ret
      exact ⟨_, _, rfl, HO.out, HJ.out⟩
/-- what an instruction of a program that may be is -/
theorem FineP.at {p : List Ins} (h : FineP p) {j : Nat} {i : Ins} (hj : p[j]? = some i) : rightI i = true := h.right i (List.mem_of_getElem? hj)
def toI (i : Ins) : Int := if leadsI i.op then i.n else 0
theorem Target_in {i : Ins} (hg : rightI i = true) (hn : (Lit.int .u32 i.n).wf = true) (w : World) :
    Calls Tryz.prog 139 #[.agg #[.int .i64 i.op, .int .i64 i.a, .int .i64 i.b, .int .i64 i.c, .int .u32 i.n]] w fun e w' => e = .returned (.tuple #[.int .i64 (toI i), .bool (leadsI i.op)]) ∧ Chg [] w w' := by
  have h := Target_any i.op i.a i.b i.c i.n hn w
  rw [show rightI ⟨i.op, i.a, i.b, i.c, i.n⟩ = true from hg, Bool.true_and] at h
  exact h
set_option maxHeartbeats 2000000 in
theorem leads_any (sa : Option Addr) (sc : Nat) (p : List Ins) (W : World) (hr : ReadsC W (.slice sa p.length sc) p) (hf : FineP p) (j : Nat) (i : Ins) (hj : p[j]? = some i) :
    Calls Tryz.prog 133 #[.slice sa p.length sc, .int .i64 (j : Int)] W fun e W' => e = .returned (.bool true) ∧ Chg [] W W' := by
  obtain ⟨-, b1, o1, hx1, hc1⟩ := code_at hr
  have hlt : j < p.length := (List.getElem?_eq_some_iff.1 hj).1
  have g1 := hx1 j hlt
  obtain ⟨q0, q1, q2, q3, q4⟩ := hc1 W (Chg.refl _ _) j _ hj
  have HQ0 : Hid (∀ V, Chg [] W V → V.cell? ⟨b1, o1 + j * 5, none⟩ = some (.int .i64 i.op)) := Lib.hid (fun V hV => (hc1 V hV j _ hj).1)
  have HT := Lib.hid (fun V => Target_in (hf.at hj) (hr.2 i (List.mem_of_getElem? hj)) V)
  have hld := hf.lead j i hj
  obtain ⟨op, ia, ib, ic, nn⟩ := i
  simp only at q0 q1 q2 q3 q4 hld HQ0 HT
  have hop : op = 16 ∨ op = 14 ∨ op = 15 ∨ (op ≠ 16 ∧ op ≠ 14 ∧ op ≠ 15) := by omega
  clear hx1 hc1 hr hf hj hlt
  rcases hop with rfl | rfl | rfl | ⟨n1, n2, n3⟩
  · have m1 : nn < (j : Int) := hld.1 rfl
    have ht : toI ⟨16, ia, ib, ic, nn⟩ = nn := rfl
    have hl : leadsI 16 = true := rfl
    rw [ht, hl] at HT
    clear hld ht hl
    go_enter Tryz.func133, Tryz.ntmps133
    go_wp2_with (go_at_call 139; refine (HT.out _).mono ?_; rintro e w1 ⟨rfl, hc1⟩; have q0' := HQ0.out w1 hc1; have HCX := Lib.hid hc1; clear hc1)
    go_ret
    exact ⟨by first | rfl | simp [*], HCX.out⟩
  · obtain ⟨m1, m2⟩ := hld.2 (by simp)
    have ht : toI ⟨14, ia, ib, ic, nn⟩ = nn := rfl
    have hl : leadsI 14 = true := rfl
    rw [ht, hl] at HT
    clear hld ht hl
    go_enter Tryz.func133, Tryz.ntmps133
    go_wp2_with (go_at_call 139; refine (HT.out _).mono ?_; rintro e w1 ⟨rfl, hc1⟩; have q0' := HQ0.out w1 hc1; have HCX := Lib.hid hc1; clear hc1)
    go_ret
    exact ⟨by first | rfl | simp [*], HCX.out⟩
  · obtain ⟨m1, m2⟩ := hld.2 (by simp)
    have ht : toI ⟨15, ia, ib, ic, nn⟩ = nn := rfl
    have hl : leadsI 15 = true := rfl
    rw [ht, hl] at HT
    clear hld ht hl
    go_enter Tryz.func133, Tryz.ntmps133
    go_wp2_with (go_at_call 139; refine (HT.out _).mono ?_; rintro e w1 ⟨rfl, hc1⟩; have q0' := HQ0.out w1 hc1; have HCX := Lib.hid hc1; clear hc1)
    go_ret
    exact ⟨by first | rfl | simp [*], HCX.out⟩
  · have hl : leadsI op = false := by simp only [leadsI, decide_eq_false_iff_not]; omega
    rw [hl] at HT
    clear hld hl n1 n2 n3
    go_enter Tryz.func133, Tryz.ntmps133
    go_wp2_with (go_at_call 139; refine (HT.out _).mono ?_; rintro e w1 ⟨rfl, hc1⟩; have HCX := Lib.hid hc1; clear hc1)
    go_ret
    exact ⟨rfl, HCX.out⟩
set_option maxHeartbeats 2000000 in
theorem first_1 (b1 : Nat) (sa : Option Addr) (sc n : Nat) (W : World) (hn : n ≤ 64)
    (h : ∀ (j : Nat), j < n → ∀ V, Chg [] W V → Calls Tryz.prog 131 #[.int .i64 (j : Int), .pointer (some ⟨b1, 0, none⟩)] V fun e V' => e = .returned (.bool false) ∧ Chg [] V V') :
    Calls Tryz.prog 130 #[.slice sa n sc, .func (.func 131) #[] #[.pointer (some ⟨b1, 0, none⟩)]] W fun e W' => e = .returned (.tuple #[.int .i64 0, .bool false]) ∧ Chg [] W W' := by
  have HF := Lib.hid h
  have HN := Lib.hid hn
  clear h hn
  go_enter Tryz.func130, Tryz.ntmps130
  go_wp2_with fail
  go_loopw [9] (fun i wr => ∃ j : Nat, j ≤ n ∧ i = .int .i64 j ∧ Hid (Chg [] W wr)) (fun i _ => n - (intOf i).toNat)
  case atStart => exact ⟨0, Nat.zero_le _, rfl, Lib.hid (Chg.refl _ _)⟩
  case round =>
    obtain ⟨j, hj, rfl, HJ⟩ := hrel
    by_cases hlt : j < n
    · have HLT := Lib.hid hlt
      have mj : (j : Int) < (n : Int) := by omega
      have HC := Lib.hid (HF.out j hlt wr HJ.out)
      have k8 : IntKind.i64.wrap ((j : Int) + 1) = (j : Int) + 1 := by rw [IntKind.wrap_i64]; have := HN.out; omega
      clear hj hlt
      go_wp2_with (go_at_call 131; refine HC.out.mono ?_; rintro e w1 ⟨rfl, hc1⟩; have HCX := Lib.hid (HJ.out.trans hc1); clear hc1)
      have hltj := HLT.out
      go_roundw
      case rel => exact ⟨j + 1, by omega, by go_num, HCX⟩
      case measure => simp [intOf]; omega
    · obtain rfl : n = j := by omega
      clear hlt hj
      go_wp2_with fail
      go_ret2
      exact ⟨rfl, HJ.out⟩
set_option maxHeartbeats 2000000 in
theorem first_2 (b1 : Nat) (sa : Option Addr) (sc n : Nat) (W : World) (hn : n ≤ 64)
    (h : ∀ (j : Nat), j < n → ∀ V, Chg [] W V → Calls Tryz.prog 132 #[.int .i64 (j : Int), .pointer (some ⟨b1, 0, none⟩)] V fun e V' => e = .returned (.bool false) ∧ Chg [] V V') :
    Calls Tryz.prog 130 #[.slice sa n sc, .func (.func 132) #[] #[.pointer (some ⟨b1, 0, none⟩)]] W fun e W' => e = .returned (.tuple #[.int .i64 0, .bool false]) ∧ Chg [] W W' := by
  have HF := Lib.hid h
  have HN := Lib.hid hn
  clear h hn
  go_enter Tryz.func130, Tryz.ntmps130
  go_wp2_with fail
  go_loopw [9] (fun i wr => ∃ j : Nat, j ≤ n ∧ i = .int .i64 j ∧ Hid (Chg [] W wr)) (fun i _ => n - (intOf i).toNat)
  case atStart => exact ⟨0, Nat.zero_le _, rfl, Lib.hid (Chg.refl _ _)⟩
  case round =>
    obtain ⟨j, hj, rfl, HJ⟩ := hrel
    by_cases hlt : j < n
    · have HLT := Lib.hid hlt
      have mj : (j : Int) < (n : Int) := by omega
      have HC := Lib.hid (HF.out j hlt wr HJ.out)
      have k8 : IntKind.i64.wrap ((j : Int) + 1) = (j : Int) + 1 := by rw [IntKind.wrap_i64]; have := HN.out; omega
      clear hj hlt
      go_wp2_with (go_at_call 132; refine HC.out.mono ?_; rintro e w1 ⟨rfl, hc1⟩; have HCX := Lib.hid (HJ.out.trans hc1); clear hc1)
      have hltj := HLT.out
      go_roundw
      case rel => exact ⟨j + 1, by omega, by go_num, HCX⟩
      case measure => simp [intOf]; omega
    · obtain rfl : n = j := by omega
      clear hlt hj
      go_wp2_with fail
      go_ret2
      exact ⟨rfl, HJ.out⟩
set_option maxHeartbeats 2000000 in
theorem first_4 (b1 b2 : Nat) (sa : Option Addr) (sc n : Nat) (W : World) (hn : n ≤ 64)
    (h : ∀ (j : Nat), j < n → ∀ V, Chg [] W V → Calls Tryz.prog 138 #[.int .i64 (j : Int), .pointer (some ⟨b1, 0, none⟩), .pointer (some ⟨b2, 0, none⟩)] V fun e V' => e = .returned (.bool false) ∧ Chg [] V V') :
    Calls Tryz.prog 130 #[.slice sa n sc, .func (.func 138) #[] #[.pointer (some ⟨b1, 0, none⟩), .pointer (some ⟨b2, 0, none⟩)]] W fun e W' => e = .returned (.tuple #[.int .i64 0, .bool false]) ∧ Chg [] W W' := by
  have HF := Lib.hid h
  have HN := Lib.hid hn
  clear h hn
  go_enter Tryz.func130, Tryz.ntmps130
  go_wp2_with fail
  go_loopw [9] (fun i wr => ∃ j : Nat, j ≤ n ∧ i = .int .i64 j ∧ Hid (Chg [] W wr)) (fun i _ => n - (intOf i).toNat)
  case atStart => exact ⟨0, Nat.zero_le _, rfl, Lib.hid (Chg.refl _ _)⟩
  case round =>
    obtain ⟨j, hj, rfl, HJ⟩ := hrel
    by_cases hlt : j < n
    · have HLT := Lib.hid hlt
      have mj : (j : Int) < (n : Int) := by omega
      have HC := Lib.hid (HF.out j hlt wr HJ.out)
      have k8 : IntKind.i64.wrap ((j : Int) + 1) = (j : Int) + 1 := by rw [IntKind.wrap_i64]; have := HN.out; omega
      clear hj hlt
      go_wp2_with (go_at_call 138; refine HC.out.mono ?_; rintro e w1 ⟨rfl, hc1⟩; have HCX := Lib.hid (HJ.out.trans hc1); clear hc1)
      have hltj := HLT.out
      go_roundw
      case rel => exact ⟨j + 1, by omega, by go_num, HCX⟩
      case measure => simp [intOf]; omega
    · obtain rfl : n = j := by omega
      clear hlt hj
      go_wp2_with fail
      go_ret2
      exact ⟨rfl, HJ.out⟩
set_option maxHeartbeats 2000000 in
theorem index_3 (b1 : Nat) (sv : Value) (l : List (Int × Int)) (W : World) (hr : ReadsS W sv l) (hn : l.length ≤ 64)
    (h : ∀ (j : Nat) (s : Int × Int), l[j]? = some s → ∀ V, Chg [] W V → Calls Tryz.prog 136 #[.agg #[.int .i64 s.1, .int .i64 s.2], .pointer (some ⟨b1, 0, none⟩)] V fun e V' => e = .returned (.bool false) ∧ Chg [] V V') :
    Calls Tryz.prog 156 #[sv, .func (.func 136) #[] #[.pointer (some ⟨b1, 0, none⟩)]] W fun e W' => e = .returned (.int .i64 (-1)) ∧ Chg [] W W' := by
  obtain ⟨sa, sc, rfl, -⟩ := reads_slice hr
  obtain ⟨-, b0, o0, hx, hc⟩ := spans_at hr
  have HF := Lib.hid h
  have HN := Lib.hid hn
  have HX := Lib.hid hx
  have HC := Lib.hid hc
  clear h hn hx hc hr
  go_enter Tryz.func156, Tryz.ntmps156
  go_wp2_with fail
  go_loopw [8] (fun i wr => ∃ j : Nat, j ≤ l.length ∧ i = .int .i64 j ∧ Hid (Chg [] W wr)) (fun i _ => l.length - (intOf i).toNat)
  case atStart => exact ⟨0, Nat.zero_le _, rfl, Lib.hid (Chg.refl _ _)⟩
  case round =>
    obtain ⟨j, hj, rfl, HJ⟩ := hrel
    by_cases hlt : j < l.length
    · have HLT := Lib.hid hlt
      have mj : (j : Int) < (l.length : Int) := by omega
      obtain ⟨s, hs⟩ : ∃ s, l[j]? = some s := ⟨_, List.getElem?_eq_getElem hlt⟩
      have g1 := HX.out j hlt
      obtain ⟨q0, q1⟩ := HC.out wr HJ.out j _ hs
      have HCC := Lib.hid (HF.out j s hs wr HJ.out)
      have k8 : IntKind.i64.wrap ((j : Int) + 1) = (j : Int) + 1 := by rw [IntKind.wrap_i64]; have := HN.out; omega
      clear hj hlt hs
      go_wp2_with (go_at_call 136; refine HCC.out.mono ?_; rintro e w1 ⟨rfl, hc1⟩; have HCX := Lib.hid (HJ.out.trans hc1); clear hc1)
      have hltj := HLT.out
      go_roundw
      case rel => exact ⟨j + 1, by omega, by go_num, HCX⟩
      case measure => simp [intOf]; omega
    · obtain rfl : l.length = j := by omega
      clear hlt hj
      go_wp2_with fail
      go_ret
      exact ⟨rfl, HJ.out⟩
theorem contains_3 (b1 : Nat) (sv : Value) (l : List (Int × Int)) (W : World) (hr : ReadsS W sv l) (hn : l.length ≤ 64)
    (h : ∀ (j : Nat) (s : Int × Int), l[j]? = some s → ∀ V, Chg [] W V → Calls Tryz.prog 136 #[.agg #[.int .i64 s.1, .int .i64 s.2], .pointer (some ⟨b1, 0, none⟩)] V fun e V' => e = .returned (.bool false) ∧ Chg [] V V') :
    Calls Tryz.prog 135 #[sv, .func (.func 136) #[] #[.pointer (some ⟨b1, 0, none⟩)]] W fun e W' => e = .returned (.bool false) ∧ Chg [] W W' := by
  have HI := Lib.hid (index_3 b1 sv l W hr hn h)
  clear hr hn h
  go_enter Tryz.func135, Tryz.ntmps135
  go_wp2_with (go_at_call 156; refine HI.out.mono ?_; rintro e w1 ⟨rfl, hc1⟩; have HCX := Lib.hid hc1; clear hc1)
  go_ret
  exact ⟨by first | rfl | simp, HCX.out⟩
set_option maxHeartbeats 2000000 in
theorem index_c (b1 b2 : Nat) (sv : Value) (l : List (Int × Int)) (W : World) (hr : ReadsS W sv l) (hn : l.length ≤ 64)
    (h : ∀ (j : Nat) (s : Int × Int), l[j]? = some s → ∀ V, Chg [] W V → Calls Tryz.prog 157 #[.agg #[.int .i64 s.1, .int .i64 s.2], .pointer (some ⟨b1, 0, none⟩), .pointer (some ⟨b2, 0, none⟩)] V fun e V' => e = .returned (.bool false) ∧ Chg [] V V') :
    Calls Tryz.prog 156 #[sv, .func (.func 157) #[] #[.pointer (some ⟨b1, 0, none⟩), .pointer (some ⟨b2, 0, none⟩)]] W fun e W' => e = .returned (.int .i64 (-1)) ∧ Chg [] W W' := by
  obtain ⟨sa, sc, rfl, -⟩ := reads_slice hr
  obtain ⟨-, b0, o0, hx, hc⟩ := spans_at hr
  have HF := Lib.hid h
  have HN := Lib.hid hn
  have HX := Lib.hid hx
  have HC := Lib.hid hc
  clear h hn hx hc hr
  go_enter Tryz.func156, Tryz.ntmps156
  go_wp2_with fail
  go_loopw [8] (fun i wr => ∃ j : Nat, j ≤ l.length ∧ i = .int .i64 j ∧ Hid (Chg [] W wr)) (fun i _ => l.length - (intOf i).toNat)
  case atStart => exact ⟨0, Nat.zero_le _, rfl, Lib.hid (Chg.refl _ _)⟩
  case round =>
    obtain ⟨j, hj, rfl, HJ⟩ := hrel
    by_cases hlt : j < l.length
    · have HLT := Lib.hid hlt
      have mj : (j : Int) < (l.length : Int) := by omega
      obtain ⟨s, hs⟩ : ∃ s, l[j]? = some s := ⟨_, List.getElem?_eq_getElem hlt⟩
      have g1 := HX.out j hlt
      obtain ⟨q0, q1⟩ := HC.out wr HJ.out j _ hs
      have HCC := Lib.hid (HF.out j s hs wr HJ.out)
      have k8 : IntKind.i64.wrap ((j : Int) + 1) = (j : Int) + 1 := by rw [IntKind.wrap_i64]; have := HN.out; omega
      clear hj hlt hs
      go_wp2_with (go_at_call 157; refine HCC.out.mono ?_; rintro e w1 ⟨rfl, hc1⟩; have HCX := Lib.hid (HJ.out.trans hc1); clear hc1)
      have hltj := HLT.out
      go_roundw
      case rel => exact ⟨j + 1, by omega, by go_num, HCX⟩
      case measure => simp [intOf]; omega
    · obtain rfl : l.length = j := by omega
      clear hlt hj
      go_wp2_with fail
      go_ret
      exact ⟨rfl, HJ.out⟩
theorem contains_c (b1 b2 : Nat) (sv : Value) (l : List (Int × Int)) (W : World) (hr : ReadsS W sv l) (hn : l.length ≤ 64)
    (h : ∀ (j : Nat) (s : Int × Int), l[j]? = some s → ∀ V, Chg [] W V → Calls Tryz.prog 157 #[.agg #[.int .i64 s.1, .int .i64 s.2], .pointer (some ⟨b1, 0, none⟩), .pointer (some ⟨b2, 0, none⟩)] V fun e V' => e = .returned (.bool false) ∧ Chg [] V V') :
    Calls Tryz.prog 135 #[sv, .func (.func 157) #[] #[.pointer (some ⟨b1, 0, none⟩), .pointer (some ⟨b2, 0, none⟩)]] W fun e W' => e = .returned (.bool false) ∧ Chg [] W W' := by
  have HI := Lib.hid (index_c b1 b2 sv l W hr hn h)
  clear hr hn h
  go_enter Tryz.func135, Tryz.ntmps135
  go_wp2_with (go_at_call 156; refine HI.out.mono ?_; rintro e w1 ⟨rfl, hc1⟩; have HCX := Lib.hid hc1; clear hc1)
  go_ret
  exact ⟨by first | rfl | simp, HCX.out⟩
def ptr (b : Nat) : Value := .pointer (some ⟨b, 0, none⟩)
theorem check1_any (sa : Option Addr) (sc : Nat) (p : List Ins) (b : Nat) (W : World) (hr : ReadsC W (.slice sa p.length sc) p) (hb : W.cell? ⟨b, 0, none⟩ = some (.slice sa p.length sc)) (hf : FineP p) (j : Nat) (i : Ins) (hj : p[j]? = some i) :
    Calls Tryz.prog 131 #[.int .i64 (j : Int), .pointer (some ⟨b, 0, none⟩)] W fun e W' => e = .returned (.bool false) ∧ Chg [] W W' := by
  obtain ⟨-, b1, o1, hx1, hc1⟩ := code_at hr
  have hlt : j < p.length := (List.getElem?_eq_some_iff.1 hj).1
  have g1 := hx1 j hlt
  obtain ⟨q0, q1, q2, q3, q4⟩ := hc1 W (Chg.refl _ _) j _ hj
  have hn := hr.2 i (List.mem_of_getElem? hj)
  have hg := hf.at hj
  obtain ⟨op, ia, ib, ic, nn⟩ := i
  simp only at q0 q1 q2 q3 q4 hn
  have HR := Lib.hid (fun V => by have h := Right_any op ia ib ic nn hn V; rw [hg] at h; exact h)
  clear hx1 hc1 hr hf hj hlt hn hg
  go_enter Tryz.func131, Tryz.ntmps131
  go_wp2_with (go_at_call 124; refine (HR.out _).mono ?_; rintro e w1 ⟨rfl, hc1⟩; have HCX := Lib.hid hc1; clear hc1)
  go_ret
  exact ⟨rfl, HCX.out⟩
theorem check2_any (sa : Option Addr) (sc : Nat) (p : List Ins) (b : Nat) (W : World) (hr : ReadsC W (.slice sa p.length sc) p) (hb : W.cell? ⟨b, 0, none⟩ = some (.slice sa p.length sc)) (hf : FineP p) (j : Nat) (i : Ins) (hj : p[j]? = some i) :
    Calls Tryz.prog 132 #[.int .i64 (j : Int), .pointer (some ⟨b, 0, none⟩)] W fun e W' => e = .returned (.bool false) ∧ Chg [] W W' := by
  have HR := Lib.hid (leads_any sa sc p W hr hf j i hj)
  clear hr hf hj
  go_enter Tryz.func132, Tryz.ntmps132
  go_wp2_with (go_at_call 133; refine HR.out.mono ?_; rintro e w1 ⟨rfl, hc1⟩; have HCX := Lib.hid hc1; clear hc1)
  go_ret
  exact ⟨rfl, HCX.out⟩
theorem check3_any (s1 s2 a1 a2 : Int) (b : Nat) (W : World) (h0 : W.cell? ⟨b, 0, none⟩ = some (.int .i64 s1)) (h1 : W.cell? ⟨b, 1, none⟩ = some (.int .i64 s2)) (h : ¬ (a1 < s1 ∧ s1 ≤ a2)) :
    Calls Tryz.prog 136 #[.agg #[.int .i64 a1, .int .i64 a2], .pointer (some ⟨b, 0, none⟩)] W fun e W' => e = .returned (.bool false) ∧ Chg [] W W' := by
  have HR := Lib.hid (fun V => overlaps_any s1 s2 a1 a2 h V)
  have HC : Hid (Chg [] W (W.alloc (.cells #[.int .i64 a1, .int .i64 a2] 117))) := Lib.hid ((Chg.refl [] W).alloc _)
  have f0 := HC.out.keep h0 (by simp)
  have f1 := HC.out.keep h1 (by simp)
  clear h
  go_enter Tryz.func136, Tryz.ntmps136
  go_wp2_with (go_at_call 137; refine (HR.out _).mono ?_; rintro e w1 ⟨rfl, hc1⟩; have HCX := Lib.hid (HC.out.trans hc1); clear hc1)
  go_ret
  exact ⟨rfl, HCX.out⟩
set_option maxHeartbeats 4000000 in
theorem crosses1_any (s1 s2 fr tq : Int) (b1 b2 : Nat) (w0 : World) (h0 : w0.cell? ⟨b1, 0, none⟩ = some (.int .i64 fr)) (h1 : w0.cell? ⟨b2, 0, none⟩ = some (.int .i64 tq)) (h : hasL (s1, s2) fr = hasL (s1, s2) tq) :
    Calls Tryz.prog 157 #[.agg #[.int .i64 s1, .int .i64 s2], .pointer (some ⟨b1, 0, none⟩), .pointer (some ⟨b2, 0, none⟩)] w0 fun e w' => e = .returned (.bool false) ∧ Chg [] w0 w' := by
  have HA := Lib.hid (fun V => has_any s1 s2 fr V)
  have HB := Lib.hid (fun V => has_any s1 s2 tq V)
  obtain ⟨r, hr⟩ : ∃ r, hasL (s1, s2) tq = r := ⟨_, rfl⟩
  rw [h, hr] at HA
  rw [hr] at HB
  have HC : Hid (Chg [] w0 (w0.alloc (.cells #[.int .i64 s1, .int .i64 s2] 117))) := Lib.hid ((Chg.refl [] w0).alloc _)
  have HN := Lib.hid (Blk.new w0 #[.int .i64 s1, .int .i64 s2] 117)
  have H0 := Lib.hid h0
  have H1 := Lib.hid h1
  clear h hr h0 h1
  go_enter Tryz.func157, Tryz.ntmps157
  go_wp2_with fail
  obtain ⟨W1, hW1⟩ : ∃ x, w0.alloc (.cells #[.int .i64 s1, .int .i64 s2] 117) = x := ⟨_, rfl⟩
  rw [hW1] at HC HN ⊢
  clear hW1
  have KEEP : Hid (∀ V, Chg [] W1 V → (fun V : World => (V.cell? ⟨w0.heap.size, 0, none⟩ = some (.int .i64 s1) ∧ V.cell? ⟨w0.heap.size, 1, none⟩ = some (.int .i64 s2)) ∧ (V.cell? ⟨b1, 0, none⟩ = some (.int .i64 fr) ∧ V.cell? ⟨b2, 0, none⟩ = some (.int .i64 tq)) ∧ Hid (Chg [] W1 V)) V) := Lib.hid (fun V hV => ⟨⟨(HN.out.keep hV (by simp)).cell rfl, (HN.out.keep hV (by simp)).cell rfl⟩, ⟨hV.keep (HC.out.keep H0.out (by simp)) (by simp), hV.keep (HC.out.keep H1.out (by simp)) (by simp)⟩, Lib.hid hV⟩)
  have hHeld : (fun V : World => (V.cell? ⟨w0.heap.size, 0, none⟩ = some (.int .i64 s1) ∧ V.cell? ⟨w0.heap.size, 1, none⟩ = some (.int .i64 s2)) ∧ (V.cell? ⟨b1, 0, none⟩ = some (.int .i64 fr) ∧ V.cell? ⟨b2, 0, none⟩ = some (.int .i64 tq)) ∧ Hid (Chg [] W1 V)) (World.drew W1) := KEEP.out _ (Chg.refl _ _).drew
  refine wp_region_plan (fun V : World => (V.cell? ⟨w0.heap.size, 0, none⟩ = some (.int .i64 s1) ∧ V.cell? ⟨w0.heap.size, 1, none⟩ = some (.int .i64 s2)) ∧ (V.cell? ⟨b1, 0, none⟩ = some (.int .i64 fr) ∧ V.cell? ⟨b2, 0, none⟩ = some (.int .i64 tq)) ∧ Hid (Chg [] W1 V)) [(0, true, some 5), (1, true, some 6), (3, true, some 8), (4, true, some 9), (2, false, some 7), (5, false, some 10), (6, true, some 11), (7, true, some 4)] (by kernel_rfl) (by kernel_rfl) (by kernel_rfl) (by kernel_rfl) (fun d c a v w h => by cases d <;> exact h) hHeld ?_
  repeat (first
    | (refine planWp_read (v := ?_) rfl rfl ?_ ?_ ?_; rotate_left; (focus rfl); (focus (intro u hSw; (try dsimp only at hSw); obtain ⟨⟨z0, z1⟩, ⟨z2, z3⟩, -⟩ := hSw; go_simp; (try with_reducible rfl))); (try simp only [Act.put, List.setIfInBounds_toArray, List.set_cons_zero, List.set_cons_succ]))
    | (refine planWp_skip rfl rfl ?_ ?_; (focus rfl); (try simp only [Act.put, List.setIfInBounds_toArray, List.set_cons_zero, List.set_cons_succ]))
    | (refine planWp_leave rfl rfl ?_ hHeld ?_; (focus rfl); (try simp only [Act.put, List.setIfInBounds_toArray, List.set_cons_zero, List.set_cons_succ]))
    | (refine planWp_do rfl rfl ?_ (fun K hK => ?_); (focus rfl); go_simp; (try go_wp2_with (first | (go_at_call 158; with_reducible refine (HA.out _).mono ?_; rintro e w5 ⟨rfl, hc5⟩; have HCX := Lib.hid hc5; clear hc5) | (go_at_call 158; with_reducible refine (HB.out _).mono ?_; rintro e w5 ⟨rfl, hc5⟩; have HCX := Lib.hid hc5; clear hc5))); refine hK.out _ _ ?_ (fun hHeld2 => ?_); (focus exact KEEP.out _ (hHeld.2.2.out.trans HCX.out)); clear hK K hHeld; have hHeld := hHeld2; clear hHeld2; (try simp only [Act.put, List.setIfInBounds_toArray, List.set_cons_zero, List.set_cons_succ])))
  refine planWp_nil ?_
  obtain ⟨-, -, hcz⟩ := hHeld
  have HCZ := Lib.hid (HC.out.trans hcz.out)
  clear KEEP hcz
  cases r
  · go_wp2_with fail
    go_ret
    exact ⟨by first | rfl | simp, HCZ.out⟩
  · go_wp2_with fail
    go_ret
    exact ⟨by first | rfl | simp, HCZ.out⟩
theorem crosses_any (sv : Value) (l : List (Int × Int)) (fr tq : Int) (W : World) (hr : ReadsS W sv l) (hn : l.length ≤ 64) (h : ∀ s ∈ l, hasL s fr = hasL s tq) :
    Calls Tryz.prog 140 #[sv, .int .i64 fr, .int .i64 tq] W fun e W' => e = .returned (.bool false) ∧ Chg [] W W' := by
  obtain ⟨W2, hW2⟩ : ∃ x, (W.alloc (.cells #[.int .i64 fr] 3)).alloc (.cells #[.int .i64 tq] 3) = x := ⟨_, rfl⟩
  have HC : Hid (Chg [] W W2) := Lib.hid (by rw [← hW2]; exact ((Chg.refl [] W).alloc _).alloc _)
  have HB1 : Hid (Blk W2 W.heap.size #[.int .i64 fr] 3) := Lib.hid (by rw [← hW2]; exact (Blk.new W _ _).alloc _)
  have HB2 : Hid (Blk W2 (W.heap.size + 1) #[.int .i64 tq] 3) := Lib.hid (by
    rw [← hW2]
    have := Blk.new (W.alloc (.cells #[.int .i64 fr] 3)) #[.int .i64 tq] 3
    rwa [show (W.alloc (.cells #[.int .i64 fr] 3)).heap.size = W.heap.size + 1 by simp] at this)
  have HI := Lib.hid (contains_c W.heap.size (W.heap.size + 1) sv l W2 (hr.chg HC.out) hn (fun j s hs V hV => crosses1_any s.1 s.2 fr tq _ _ V ((HB1.out.keep hV (by simp)).cell rfl) ((HB2.out.keep hV (by simp)).cell rfl) (h s (List.mem_of_getElem? hs))))
  clear hr hn h
  go_enter Tryz.func140, Tryz.ntmps140
  go_wp2_with (first | (go_at_call 135; (try rw [hW2]); refine HI.out.mono ?_; rintro e w1 ⟨rfl, hc1⟩; have HCX := Lib.hid (HC.out.trans hc1); clear hc1))
  go_ret
  exact ⟨rfl, HCX.out⟩
set_option maxHeartbeats 2000000 in
theorem check4_any (sa : Option Addr) (sc : Nat) (p : List Ins) (lv : Value) (b c : Nat) (W : World) (hr : ReadsC W (.slice sa p.length sc) p) (hl : ReadsS W lv (loopsF 0 p)) (hb : W.cell? ⟨b, 0, none⟩ = some (.slice sa p.length sc)) (hb2 : W.cell? ⟨c, 0, none⟩ = some lv) (hf : FineP p) (j : Nat) (i : Ins) (hj : p[j]? = some i) :
    Calls Tryz.prog 138 #[.int .i64 (j : Int), .pointer (some ⟨b, 0, none⟩), .pointer (some ⟨c, 0, none⟩)] W fun e W' => e = .returned (.bool false) ∧ Chg [] W W' := by
  have hll : (loopsF 0 p).length ≤ 64 := Nat.le_trans (loopsF_len 0 p) hf.len.2
  obtain ⟨-, b1, o1, hx1, hc1⟩ := code_at hr
  have hlt : j < p.length := (List.getElem?_eq_some_iff.1 hj).1
  have g1 := hx1 j hlt
  obtain ⟨q0, q1, q2, q3, q4⟩ := hc1 W (Chg.refl _ _) j _ hj
  have HQ0 : Hid (∀ V, Chg [] W V → V.cell? ⟨b1, o1 + j * 5, none⟩ = some (.int .i64 i.op) ∧ V.cell? ⟨b, 0, none⟩ = some (.slice sa p.length sc) ∧ V.cell? ⟨c, 0, none⟩ = some lv) := Lib.hid (fun V hV => ⟨(hc1 V hV j _ hj).1, hV.keep hb (by simp), hV.keep hb2 (by simp)⟩)
  have HT := Lib.hid (fun V => Target_in (hf.at hj) (hr.2 i (List.mem_of_getElem? hj)) V)
  have hcr := hf.cross j i hj
  have HL := Lib.hid hl
  have HLL := Lib.hid hll
  obtain ⟨op, ia, ib, ic, nn⟩ := i
  simp only at q0 q1 q2 q3 q4 hcr HQ0 HT
  have hop : op = 16 ∨ op = 14 ∨ op = 15 ∨ (op ≠ 16 ∧ op ≠ 14 ∧ op ≠ 15) := by omega
  clear hx1 hc1 hr hf hj hlt hl hll
  rcases hop with rfl | rfl | rfl | ⟨n1, n2, n3⟩
  · rw [show toI ⟨16, ia, ib, ic, nn⟩ = nn from rfl, show leadsI 16 = true from rfl] at HT
    clear hcr
    go_enter Tryz.func138, Tryz.ntmps138
    go_wp2_with (go_at_call 139; refine (HT.out _).mono ?_; rintro e w1 ⟨rfl, hc1⟩; obtain ⟨q0', hb', hb2'⟩ := HQ0.out w1 hc1; have HCX := Lib.hid hc1; clear hc1)
    go_ret
    exact ⟨rfl, HCX.out⟩
  · rw [show toI ⟨14, ia, ib, ic, nn⟩ = nn from rfl, show leadsI 14 = true from rfl] at HT
    have HCR := Lib.hid (fun V (hV : Chg [] W V) => crosses_any lv (loopsF 0 p) (j : Int) nn V (HL.out.chg hV) HLL.out (hcr (by simp)))
    clear hcr
    go_enter Tryz.func138, Tryz.ntmps138
    go_wp2_with (first | (go_at_call 139; refine (HT.out _).mono ?_; rintro e w1 ⟨rfl, hc1⟩; obtain ⟨q0', hb', hb2'⟩ := HQ0.out w1 hc1; have HCX := Lib.hid hc1; clear hc1) | (go_at_call 140; refine (HCR.out _ HCX.out).mono ?_; rintro e w2 ⟨rfl, hc2⟩; have HCY := Lib.hid (HCX.out.trans hc2); clear hc2))
    go_ret
    exact ⟨rfl, HCY.out⟩
  · rw [show toI ⟨15, ia, ib, ic, nn⟩ = nn from rfl, show leadsI 15 = true from rfl] at HT
    have HCR := Lib.hid (fun V (hV : Chg [] W V) => crosses_any lv (loopsF 0 p) (j : Int) nn V (HL.out.chg hV) HLL.out (hcr (by simp)))
    clear hcr
    go_enter Tryz.func138, Tryz.ntmps138
    go_wp2_with (first | (go_at_call 139; refine (HT.out _).mono ?_; rintro e w1 ⟨rfl, hc1⟩; obtain ⟨q0', hb', hb2'⟩ := HQ0.out w1 hc1; have HCX := Lib.hid hc1; clear hc1) | (go_at_call 140; refine (HCR.out _ HCX.out).mono ?_; rintro e w2 ⟨rfl, hc2⟩; have HCY := Lib.hid (HCX.out.trans hc2); clear hc2))
    go_ret
    exact ⟨rfl, HCY.out⟩
  · have hl : leadsI op = false := by simp only [leadsI, decide_eq_false_iff_not]; omega
    rw [hl] at HT
    clear hcr hl n1 n2 n3
    go_enter Tryz.func138, Tryz.ntmps138
    go_wp2_with (go_at_call 139; refine (HT.out _).mono ?_; rintro e w1 ⟨rfl, hc1⟩; obtain ⟨q0', hb', hb2'⟩ := HQ0.out w1 hc1; have HCX := Lib.hid hc1; clear hc1)
    go_ret
    exact ⟨rfl, HCX.out⟩
end Go.Proofs.YtkedegbpkkgeaaaGreat.tf
/- TopFits: flow: Check, Loops, Next of a program that may be. -/
namespace Go.Proofs.YtkedegbpkkgeaaaGreat.tf
open Go Go.RowKit Go.Proofs.YtkedegbpkkgeaaaGreat.kit Go.Proofs.YtkedegbpkkgeaaaGreat.obj Go.Proofs.YtkedegbpkkgeaaaGreat.mem Go.Proofs.YtkedegbpkkgeaaaGreat.lay Go.Proofs.YtkedegbpkkgeaaaGreat.isa
set_option linter.unusedVariables false
set_option linter.unusedSimpArgs false
set_option maxRecDepth 20000

theorem spc_take : ∀ (l : List (Int × Int)) (j : Nat), (l.flatMap spc).take (j * 2) = (l.take j).flatMap spc
  | [], j => by simp
  | a :: l, 0 => by simp
  | a :: l, j + 1 => by
    rw [show (j + 1) * 2 = j * 2 + 1 + 1 by omega, List.flatMap_cons, List.take_succ_cons, List.flatMap_cons]
    show ([_, _] ++ l.flatMap spc).take (j * 2 + 1 + 1) = [_, _] ++ _
    rw [List.cons_append, List.cons_append, List.take_succ_cons, List.take_succ_cons, List.nil_append, spc_take l j]
    rfl
set_option maxHeartbeats 8000000 in
theorem fCheck_any (sa : Option Addr) (sc : Nat) (p : List Ins) (W : World) (hr : ReadsC W (.slice sa p.length sc) p) (hf : FineP p) :
    Calls Tryz.prog 119 #[.slice sa p.length sc] W fun e W' => e = .returned (.tuple #[.int .i64 0, .int .i64 0]) ∧ Chg [] W W' := by
  have HF := Lib.hid hf
  have HR := Lib.hid hr
  have HAL : Hid (Chg [] W (W.alloc (.cells #[.slice sa p.length sc] 29))) := Lib.hid ((Chg.refl [] W).alloc _)
  have HB := Lib.hid (Blk.new W #[.slice sa p.length sc] 29)
  have m0 : ((p.length : Int) == 0) = false := beq_eq_false_iff_ne.2 (by have := hf.len.1; omega)
  have m1 : ¬ (64 : Int) < (p.length : Int) := by have := hf.len.2; omega
  have HL : Hid (1 ≤ p.length ∧ p.length ≤ 64) := Lib.hid hf.len
  clear hf hr
  go_enter Tryz.func119, Tryz.ntmps119
  go_upto_region 3 with fail
  obtain ⟨w1, hw1⟩ : ∃ x, x = W.alloc (.cells #[.slice sa p.length sc] 29) := ⟨_, rfl⟩
  rw [← hw1] at HAL HB ⊢
  clear hw1 m0 m1
  have KP : Hid (∀ V, Chg [] w1 V → V.cell? ⟨W.heap.size, 0, none⟩ = some (.slice sa p.length sc)) := Lib.hid (fun V hV => (HB.out.keep hV (by simp)).cell rfl)
  have HF1 := Lib.hid (fun V (hV : Chg [] w1 V) => first_1 W.heap.size sa sc p.length V HL.out.2 (fun j hj U hU => by
    have hU' := hV.trans hU
    exact check1_any sa sc p W.heap.size U (HR.out.chg (HAL.out.trans hU')) (KP.out U hU') HF.out j _ (List.getElem?_eq_getElem hj)))
  have HF2 := Lib.hid (fun V (hV : Chg [] w1 V) => first_2 W.heap.size sa sc p.length V HL.out.2 (fun j hj U hU => by
    have hU' := hV.trans hU
    exact check2_any sa sc p W.heap.size U (HR.out.chg (HAL.out.trans hU')) (KP.out U hU') HF.out j _ (List.getElem?_eq_getElem hj)))
  have HLP := Lib.hid (fun V (hV : Chg [] w1 V) => loops_any sa sc p V (HR.out.chg (HAL.out.trans hV)) HL.out.2)
  have f0 := KP.out w1 (Chg.refl _ _)
  go_upto_region 10 with (first
    | (go_at_call 130; with_reducible refine (HF1.out _ (Chg.refl _ _)).mono ?_; rintro e w2 ⟨rfl, hc2⟩; have f0 := KP.out w2 hc2; have HC2 := Lib.hid hc2; clear hc2)
    | (go_at_call 130; with_reducible refine (HF2.out _ HC2.out).mono ?_; rintro e w3 ⟨rfl, hc3⟩; have f0 := KP.out w3 (HC2.out.trans hc3); have HC3 := Lib.hid (HC2.out.trans hc3); clear hc3)
    | (go_at_call 134; refine (HLP.out _ HC3.out).mono ?_; rintro e w4 ⟨la, lc, rfl, hol, hc4⟩; have HC4 := Lib.hid (HC3.out.trans hc4); have HOL := Lib.hid hol; clear hol hc4))
  obtain ⟨LL, hLL⟩ : ∃ x, loopsF 0 p = x := ⟨_, rfl⟩
  have HLL := Lib.hid hLL
  rw [hLL] at HOL
  rw [hLL]
  have HB8 := Lib.hid (Blk.new w4 #[.slice la LL.length lc] 113)
  obtain ⟨w5, hw5⟩ : ∃ x, x = w4.alloc (.cells #[.slice la LL.length lc] 113) := ⟨_, rfl⟩
  obtain ⟨b8, hb8⟩ : ∃ x, x = w4.heap.size := ⟨_, rfl⟩
  have HC5 : Hid (Chg [] w1 w5) := Lib.hid (by rw [hw5]; exact HC4.out.alloc _)
  have HRL : Hid (ReadsS w5 (.slice la LL.length lc) LL) := Lib.hid (by rw [hw5]; exact (OwnS.reads HOL.out).chg ((Chg.refl [] _).alloc _))
  rw [← hw5, ← hb8] at HB8
  try rw [← hw5]
  try rw [← hb8]
  clear hw5 hb8 hLL f0
  have KL : Hid (∀ V, Chg [] w5 V → V.cell? ⟨W.heap.size, 0, none⟩ = some (.slice sa p.length sc) ∧ V.cell? ⟨b8, 0, none⟩ = some (.slice la LL.length lc)) := Lib.hid (fun V hV => ⟨KP.out V (HC5.out.trans hV), (HB8.out.keep hV (by simp)).cell rfl⟩)
  obtain ⟨-, b2, o2, hx2, hc2⟩ := spans_at HRL.out
  have HX2 := Lib.hid hx2
  have HQ2 := Lib.hid hc2
  have HLN : Hid (LL.length ≤ 64) := Lib.hid (by have h1 := loopsF_len 0 p; have h2 := HL.out; rw [HLL.out] at h1; omega)
  clear hx2 hc2
  obtain ⟨f0, f1⟩ := KL.out w5 (Chg.refl _ _)
  go_wp2_with fail
  clear f0 f1
  go_loopw [43] (fun i wr => ∃ k : Nat, k ≤ LL.length ∧ i = .int .i64 k ∧ Hid (Chg [] w5 wr)) (fun i _ => LL.length - (intOf i).toNat)
  case atStart => exact ⟨0, Nat.zero_le _, rfl, Lib.hid (Chg.refl _ _)⟩
  case round =>
    obtain ⟨k, hk, rfl, HJ⟩ := hrel
    by_cases hlt : k < LL.length
    · have HLT := Lib.hid hlt
      have mk : (k : Int) < (LL.length : Int) := by omega
      obtain ⟨t, htk⟩ : ∃ t, LL[k]? = some t := ⟨_, List.getElem?_eq_getElem hlt⟩
      have g2 := HX2.out k hlt
      obtain ⟨q0, q1⟩ := HQ2.out wr HJ.out k _ htk
      have k9 : IntKind.i64.wrap ((k : Int) + 1) = (k : Int) + 1 := by rw [IntKind.wrap_i64]; have := HLN.out; omega
      obtain ⟨vs, es, rs, -⟩ := slice_high (P := Tryz.prog) Tryz.underlying113 szSpan HRL.out k (by omega)
      have htl : (LL.take k).length = k := by rw [List.length_take]; omega
      have hrs : ReadsS w5 vs (LL.take k) := by
        unfold ReadsS
        rw [htl, ← spc_take]
        exact rs
      have HRS := Lib.hid hrs
      have hlap : ∀ (j : Nat) (s : Int × Int), (LL.take k)[j]? = some s → ¬ (s.1 < t.1 ∧ t.1 ≤ s.2) := fun j s hs => by
        rw [List.getElem?_take] at hs
        split at hs
        · rename_i hjk
          exact HF.out.lap j k s t hjk (by rw [HLL.out]; exact hs) (by rw [HLL.out]; exact htk)
        · cases hs
      have HLAP := Lib.hid hlap
      have HTL := Lib.hid htl
      obtain ⟨t1, t2⟩ := t
      simp only at q0 q1 HLAP
      have HBO := Lib.hid (Blk.new wr #[.int .i64 t1, .int .i64 t2] 117)
      have HAO : Hid (Chg [] w5 (wr.alloc (.cells #[.int .i64 t1, .int .i64 t2] 117))) := Lib.hid (HJ.out.alloc _)
      have HCT := Lib.hid (contains_3 wr.heap.size vs (LL.take k) (wr.alloc (.cells #[.int .i64 t1, .int .i64 t2] 117)) (HRS.out.chg HAO.out) (by have := HTL.out; have := HLN.out; have := HLT.out; omega) (fun j s hs U hU => check3_any t1 t2 s.1 s.2 _ U ((HBO.out.keep hU (by simp)).cell rfl) ((HBO.out.keep hU (by simp)).cell rfl) (HLAP.out j s hs)))
      obtain ⟨-, f1⟩ := KL.out _ HAO.out
      clear htk hk hlt rs htl hrs hlap
      go_wp2_with (go_at_call 135; refine HCT.out.mono ?_; rintro e w6 ⟨rfl, hc6⟩; have HCX := Lib.hid (HAO.out.trans hc6); clear hc6)
      have hltj := HLT.out
      go_roundw
      case rel => exact ⟨k + 1, by omega, by go_num, HCX⟩
      case measure => simp [intOf]; omega
    · obtain rfl : LL.length = k := by omega
      clear hlt hk
      obtain ⟨f0, f1⟩ := KL.out _ HJ.out
      have HF4 := Lib.hid (first_4 W.heap.size b8 sa sc p.length wr HL.out.2 (fun j hj U hU => by
        have hU' := HJ.out.trans hU
        obtain ⟨x0, x1⟩ := KL.out U hU'
        exact check4_any sa sc p _ W.heap.size b8 U (HR.out.chg (HAL.out.trans (HC5.out.trans hU'))) (by rw [HLL.out]; exact HRL.out.chg hU') x0 x1 HF.out j _ (List.getElem?_eq_getElem hj)))
      obtain ⟨x, hx, hx21⟩ := HF.out.done
      obtain ⟨l1, hl1⟩ : ∃ x, p.length - 1 = x := ⟨_, rfl⟩
      rw [hl1] at hx
      obtain ⟨-, b1, o1, hx1, hc1⟩ := code_at HR.out
      have g1 := hx1 l1 (by have := HL.out; omega)
      have HQ1 : Hid (∀ V, Chg [] W V → V.cell? ⟨b1, o1 + l1 * 5, none⟩ = some (.int .i64 21)) := Lib.hid (fun V hV => by have := (hc1 V hV l1 x hx).1; rwa [hx21] at this)
      have kl : IntKind.i64.wrap ((p.length : Int) - 1) = (l1 : Int) := by rw [IntKind.wrap_i64]; have := HL.out; omega
      clear hx hx21 hl1 hx1 hc1
      go_wp2_with (go_at_call 130; refine HF4.out.mono ?_; rintro e w6 ⟨rfl, hc6⟩; have HCX := Lib.hid (HJ.out.trans hc6); obtain ⟨f0, f1⟩ := KL.out w6 (HJ.out.trans hc6); have q0 := HQ1.out w6 (HAL.out.trans (HC5.out.trans (HJ.out.trans hc6))); clear hc6)
      go_ret2
      exact ⟨rfl, HAL.out.trans (HC5.out.trans HCX.out)⟩
theorem fine_any (sa : Option Addr) (sc : Nat) (p : List Ins) (W : World) (hr : ReadsC W (.slice sa p.length sc) p) (hf : FineP p) :
    Calls Tryz.prog 167 #[.slice sa p.length sc] W fun e W' => e = .returned (.bool true) ∧ Chg [] W W' := by
  have HC := Lib.hid (fCheck_any sa sc p W hr hf)
  clear hr hf
  go_enter Tryz.func167, Tryz.ntmps167
  go_wp2_with (go_at_call 119; refine HC.out.mono ?_; rintro e w1 ⟨rfl, hc1⟩; have HCX := Lib.hid hc1; clear hc1)
  go_ret
  exact ⟨by first | rfl | simp, HCX.out⟩
theorem fLoops_any (sa : Option Addr) (sc : Nat) (p : List Ins) (W : World) (hr : ReadsC W (.slice sa p.length sc) p) (hf : FineP p) :
    Calls Tryz.prog 151 #[.slice sa p.length sc] W fun e W' => ∃ a c, e = .returned (.slice a (loopsF 0 p).length c) ∧ ReadsS W' (.slice a (loopsF 0 p).length c) (loopsF 0 p) ∧ Chg [] W W' := by
  have HC := Lib.hid (fine_any sa sc p W hr hf)
  have HL := Lib.hid (fun V (hV : Chg [] W V) => loops_any sa sc p V (hr.chg hV) hf.len.2)
  clear hr hf
  go_enter Tryz.func151, Tryz.ntmps151
  go_wp2_with (first
    | (go_at_call 167; refine HC.out.mono ?_; rintro e w1 ⟨rfl, hc1⟩; have HCX := Lib.hid hc1; clear hc1)
    | (go_at_call 134; refine (HL.out _ HCX.out).mono ?_; rintro e w2 ⟨a, c, rfl, ho, hc2⟩; have HCY := Lib.hid (HCX.out.trans hc2); have HO := Lib.hid (OwnS.reads ho); clear ho hc2))
  go_ret
  exact ⟨_, _, rfl, HO.out, HCY.out⟩
end Go.Proofs.YtkedegbpkkgeaaaGreat.tf
/- TopFits: flow: where an instruction goes on. -/
namespace Go.Proofs.YtkedegbpkkgeaaaGreat.tf
open Go Go.RowKit Go.Proofs.YtkedegbpkkgeaaaGreat.kit Go.Proofs.YtkedegbpkkgeaaaGreat.obj Go.Proofs.YtkedegbpkkgeaaaGreat.mem Go.Proofs.YtkedegbpkkgeaaaGreat.lay Go.Proofs.YtkedegbpkkgeaaaGreat.isa
set_option linter.unusedVariables false
set_option linter.unusedSimpArgs false
set_option maxRecDepth 20000

theorem reads2 (w : World) (x y : Int) : ReadsN (w.alloc (.cells #[.int .i64 x, .int .i64 y] 3)) (.slice (some ⟨w.heap.size, 0, none⟩) 2 2) [x, y] := reads_lit w #[.int .i64 x, .int .i64 y] 3 2 rfl (by decide)
theorem reads1 (w : World) (x : Int) : ReadsN (w.alloc (.cells #[.int .i64 x] 3)) (.slice (some ⟨w.heap.size, 0, none⟩) 1 1) [x] := reads_one w (.int .i64 x) 3
theorem reads0 (w : World) : ReadsN w (.slice none 0 0) [] := Reads.nil w 1
/-- it returns a row of numbers of its own -/
def RowN (B : Nat) (l : List Int) (e : Ending) (w : World) : Prop := ∃ a c, e = .returned (.slice a l.length c) ∧ ReadsN w (.slice a l.length c) l ∧ ∀ y, (Value.slice a l.length c).ownBlock = some y → B ≤ y
theorem RowN.mk {B : Nat} {l : List Int} {e : Ending} {w : World} (a : Option Addr) (c : Nat) (h : e = .returned (.slice a l.length c)) (r : ReadsN w (.slice a l.length c) l) (hb : ∀ y, (Value.slice a l.length c).ownBlock = some y → B ≤ y) : RowN B l e w := ⟨a, c, h, r, hb⟩
set_option maxHeartbeats 2000000 in
theorem next_any (sa : Option Addr) (sc : Nat) (p : List Ins) (W : World) (hr : ReadsC W (.slice sa p.length sc) p) (hf : FineP p) (j : Nat) (i : Ins) (hj : p[j]? = some i) :
    Calls Tryz.prog 183 #[.slice sa p.length sc, .int .i64 (j : Int)] W fun e W' => RowN W.heap.size (nextM i j) e W' ∧ Chg [] W W' := by
  obtain ⟨-, b1, o1, hx1, hc1⟩ := code_at hr
  have hlt : j < p.length := (List.getElem?_eq_some_iff.1 hj).1
  have g1 := hx1 j hlt
  obtain ⟨q0, q1, q2, q3, q4⟩ := hc1 W (Chg.refl _ _) j _ hj
  have HQ0 : Hid (∀ V, Chg [] W V → V.cell? ⟨b1, o1 + j * 5, none⟩ = some (.int .i64 i.op)) := Lib.hid (fun V hV => (hc1 V hV j _ hj).1)
  have HT := Lib.hid (fun V => Target_in (hf.at hj) (hr.2 i (List.mem_of_getElem? hj)) V)
  have k8 : IntKind.i64.wrap ((j : Int) + 1) = (j : Int) + 1 := by rw [IntKind.wrap_i64]; have := hf.len.2; omega
  obtain ⟨N, hN⟩ : ∃ x, nextM i j = x := ⟨_, rfl⟩
  have HN := Lib.hid hN
  rw [hN]
  have hld := hf.lead j i hj
  obtain ⟨op, ia, ib, ic, nn⟩ := i
  unfold nextM at hN
  simp only at q0 q1 q2 q3 q4 HQ0 HT hN hld
  have hop : op = 21 ∨ op = 14 ∨ op = 15 ∨ op = 16 ∨ (op ≠ 21 ∧ op ≠ 14 ∧ op ≠ 15 ∧ op ≠ 16) := by omega
  clear hx1 hc1 hr hf hj hlt HN
  rcases hop with rfl | rfl | rfl | rfl | ⟨n1, n2, n3, n4⟩
  · rw [show toI ⟨21, ia, ib, ic, nn⟩ = 0 from rfl, show leadsI 21 = false from rfl] at HT
    obtain rfl : [] = N := by simpa using hN
    clear hN hld
    go_enter Tryz.func183, Tryz.ntmps183
    go_wp2_with (go_at_call 139; refine (HT.out _).mono ?_; rintro e w1 ⟨rfl, hc1⟩; have q0' := HQ0.out w1 hc1; have HCX := Lib.hid hc1; clear hc1)
    go_ret
    exact ⟨.mk none 0 rfl (reads0 _) (fun y hy => by simp [Value.ownBlock] at hy), HCX.out⟩
  · rw [show toI ⟨14, ia, ib, ic, nn⟩ = nn from rfl, show leadsI 14 = true from rfl] at HT
    obtain rfl : [nn] = N := by simpa using hN
    clear hN hld
    go_enter Tryz.func183, Tryz.ntmps183
    go_wp2_with (go_at_call 139; refine (HT.out _).mono ?_; rintro e w1 ⟨rfl, hc1⟩; have q0' := HQ0.out w1 hc1; have HCX := Lib.hid hc1; clear hc1)
    go_ret
    exact ⟨.mk _ _ rfl (reads1 _ nn) (fun y hy => by simp [Value.ownBlock] at hy; have := HCX.out.size; omega), HCX.out.alloc _⟩
  · rw [show toI ⟨15, ia, ib, ic, nn⟩ = nn from rfl, show leadsI 15 = true from rfl] at HT
    have hlv : leadsI 15 = true := rfl
    by_cases c1 : nn = (j : Int) + 1
    · obtain rfl : [(j : Int) + 1] = N := by simpa [hlv, c1] using hN
      subst c1
      clear hN hld hlv
      go_enter Tryz.func183, Tryz.ntmps183
      go_wp2_with (go_at_call 139; refine (HT.out _).mono ?_; rintro e w1 ⟨rfl, hc1⟩; have q0' := HQ0.out w1 hc1; have HCX := Lib.hid hc1; clear hc1)
      go_ret
      exact ⟨.mk _ _ rfl (reads1 _ ((j : Int) + 1)) (fun y hy => by simp [Value.ownBlock] at hy; have := HCX.out.size; omega), HCX.out.alloc _⟩
    · obtain rfl : [min nn ((j : Int) + 1), max nn ((j : Int) + 1)] = N := by simpa [hlv, c1] using hN
      have d1 : (nn == (j : Int) + 1) = false := by simpa using c1
      clear hN hld hlv
      go_enter Tryz.func183, Tryz.ntmps183
      go_wp2_with (go_at_call 139; refine (HT.out _).mono ?_; rintro e w1 ⟨rfl, hc1⟩; have q0' := HQ0.out w1 hc1; have HCX := Lib.hid hc1; clear hc1)
      all_goals (go_ret; refine ⟨.mk _ _ rfl ?_ (fun y hy => by simp [Value.ownBlock] at hy; have := HCX.out.size; omega), HCX.out.alloc _⟩; first | (rw [show min nn ((j : Int) + 1) = nn by omega, show max nn ((j : Int) + 1) = (j : Int) + 1 by omega]; exact reads2 _ _ _) | (rw [show min nn ((j : Int) + 1) = (j : Int) + 1 by omega, show max nn ((j : Int) + 1) = nn by omega]; exact reads2 _ _ _))
  · rw [show toI ⟨16, ia, ib, ic, nn⟩ = nn from rfl, show leadsI 16 = true from rfl] at HT
    have hlv : leadsI 16 = true := rfl
    by_cases c1 : nn = (j : Int) + 1
    · obtain rfl : [(j : Int) + 1] = N := by simpa [hlv, c1] using hN
      subst c1
      clear hN hld hlv
      go_enter Tryz.func183, Tryz.ntmps183
      go_wp2_with (go_at_call 139; refine (HT.out _).mono ?_; rintro e w1 ⟨rfl, hc1⟩; have q0' := HQ0.out w1 hc1; have HCX := Lib.hid hc1; clear hc1)
      go_ret
      exact ⟨.mk _ _ rfl (reads1 _ ((j : Int) + 1)) (fun y hy => by simp [Value.ownBlock] at hy; have := HCX.out.size; omega), HCX.out.alloc _⟩
    · obtain rfl : [min nn ((j : Int) + 1), max nn ((j : Int) + 1)] = N := by simpa [hlv, c1] using hN
      have d1 : (nn == (j : Int) + 1) = false := by simpa using c1
      clear hN hld hlv
      go_enter Tryz.func183, Tryz.ntmps183
      go_wp2_with (go_at_call 139; refine (HT.out _).mono ?_; rintro e w1 ⟨rfl, hc1⟩; have q0' := HQ0.out w1 hc1; have HCX := Lib.hid hc1; clear hc1)
      all_goals (go_ret; refine ⟨.mk _ _ rfl ?_ (fun y hy => by simp [Value.ownBlock] at hy; have := HCX.out.size; omega), HCX.out.alloc _⟩; first | (rw [show min nn ((j : Int) + 1) = nn by omega, show max nn ((j : Int) + 1) = (j : Int) + 1 by omega]; exact reads2 _ _ _) | (rw [show min nn ((j : Int) + 1) = (j : Int) + 1 by omega, show max nn ((j : Int) + 1) = nn by omega]; exact reads2 _ _ _))
  · have hl : leadsI op = false := by simp only [leadsI, decide_eq_false_iff_not]; omega
    have ht : toI ⟨op, ia, ib, ic, nn⟩ = 0 := by unfold toI; simp only [hl, Bool.false_eq_true, if_false]
    rw [hl, ht] at HT
    obtain rfl : [(j : Int) + 1] = N := by rw [if_neg n1, if_neg n2, if_pos (.inl hl)] at hN; exact hN
    have d1 : (op == 21) = false := by simpa using n1
    have d2 : (op == 14) = false := by simpa using n2
    clear hN hld hl ht n1 n2 n3 n4
    go_enter Tryz.func183, Tryz.ntmps183
    go_wp2_with (go_at_call 139; refine (HT.out _).mono ?_; rintro e w1 ⟨rfl, hc1⟩; have q0' := HQ0.out w1 hc1; have HCX := Lib.hid hc1; clear hc1)
    go_ret
    exact ⟨.mk _ _ rfl (reads1 _ ((j : Int) + 1)) (fun y hy => by simp [Value.ownBlock] at hy; have := HCX.out.size; omega), HCX.out.alloc _⟩
set_option maxHeartbeats 2000000 in
theorem fNext_any (sa : Option Addr) (sc : Nat) (p : List Ins) (W : World) (hr : ReadsC W (.slice sa p.length sc) p) (hf : FineP p) (j : Nat) (i : Ins) (hj : p[j]? = some i) :
    Calls Tryz.prog 177 #[.slice sa p.length sc, .int .i64 (j : Int)] W fun e W' => RowN W.heap.size (nextM i j) e W' ∧ Chg [] W W' := by
  have HC := Lib.hid (fine_any sa sc p W hr hf)
  have HX := Lib.hid (fun V (hV : Chg [] W V) => next_any sa sc p V (hr.chg hV) hf j i hj)
  have hlt : j < p.length := (List.getElem?_eq_some_iff.1 hj).1
  have m1 : ¬ (j : Int) < 0 := by omega
  have m2 : ¬ (p.length : Int) ≤ (j : Int) := by omega
  clear hr hf hj hlt
  go_enter Tryz.func177, Tryz.ntmps177
  go_wp2_with (first
    | (go_at_call 167; refine HC.out.mono ?_; rintro e w1 ⟨rfl, hc1⟩; have HCX := Lib.hid hc1; clear hc1)
    | (go_at_call 183; refine (HX.out _ HCX.out).mono ?_; rintro e w2 ⟨⟨a, c, rfl, hr, hob⟩, hc2⟩; have HCY := Lib.hid (HCX.out.trans hc2); have HR := Lib.hid hr; have HOB := Lib.hid (fun y hy => Nat.le_trans HCX.out.size (hob y hy)); clear hc2 hr hob))
  go_ret
  exact ⟨.mk _ _ rfl HR.out HOB.out, HCY.out⟩
end Go.Proofs.YtkedegbpkkgeaaaGreat.tf
