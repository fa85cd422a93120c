/-
  coxswainlaw42.ScriptMany returns true for every acts and more: just so many acts, and ticks, as there may be are right, and one more is not. No conditions.
-/
import Derived.Test.YtldbaommeflooaaDoorRows
import Derived.WalkKit
import Derived.ProofKit
import Derived.OpenShut
import Derived.ShutString
import Derived.ChangeOld
import Derived.Below
import Derived.Test.YtldbaommeflooaaDoorOpen
import Derived.Test.YtldbaommeflooaaDoorScrT
import Derived.Test.YtldbaommeflooaaDoorCards
import Derived.Test.YtldbaommeflooaaDoorTie
import Derived.SevenTiedAt
import Derived.Stop.Joined
import Derived.Test.YtldbaommeflooaaDoorScrU
namespace Go.Proofs.YtldbaommeflooaaDoor.scriptMany
open Go.ChangeShapes Go.WideShapes Go.ChangeAt Go.RowKit
open Go.ChangeMaps (open_string shut_string)
set_option linter.unusedVariables false
open Go.Proofs.YtldbaommeflooaaDoor.kit Go.Proofs.YtldbaommeflooaaDoor.scr
set_option linter.unusedSimpArgs false
set_option maxRecDepth 100000
def manyL (N : Nat) (x : Int) : List Ac := ⟨1, x⟩ :: List.replicate (N - 1) ⟨1, 65⟩
theorem manyL_len {N : Nat} (h : 1 ≤ N) (x : Int) : (manyL N x).length = N := by simp [manyL]; omega
theorem manyL_rep {N : Nat} (h : 1 ≤ N) : List.replicate N (⟨1, 65⟩ : Ac) = manyL N 65 := by
  obtain ⟨k, rfl⟩ : ∃ k, N = k + 1 := ⟨N - 1, by omega⟩
  rfl
theorem manyL_set (N : Nat) (x y : Int) : ((manyL N x).flatMap Ac.cells).set 1 (.int .i64 y) = (manyL N y).flatMap Ac.cells := rfl
theorem inside_of {t : Int} (h0 : 0 ≤ t) (h1 : t ≤ 1099511627776) : word.inside t = t := by unfold word.inside; omega
theorem ticks_rep : ∀ (k : Nat) (t : Int), 0 ≤ t → t + 65 * k ≤ 1099511627776 → (List.replicate k (⟨1, 65⟩ : Ac)).foldl tickS t = t + 65 * k
  | 0, t, _, _ => by simp
  | k + 1, t, h0, h1 => by
    rw [List.replicate_succ, List.foldl_cons]
    have e : tickS t ⟨1, 65⟩ = t + 65 := by
      unfold tickS addT
      simp only [if_true]
      rw [inside_of h0 (by omega), inside_of (t := 65) (by omega) (by omega), inside_of (t := t + 65) (by omega) (by omega)]
    rw [e, ticks_rep k (t + 65) (by omega) (by omega)]
    omega
theorem many_right (N : Nat) (x : Int) (h : 1 ≤ N ∧ N ≤ 1100) (hx : 0 ≤ x ∧ x ≤ 65536) : rightA (manyL N x) = (decide ((N : Int) ≤ 1000) && decide (x + 65 * ((N - 1 : Nat) : Int) ≤ 65536)) := by
  have h1 : (manyL N x).all oneB = true := by
    rw [List.all_eq_true]
    intro a ha
    rcases List.mem_cons.1 ha with rfl | ha
    · simp [oneB, hx.1, hx.2]
    · rw [List.eq_of_mem_replicate ha]; decide
  have h2 : ticks (manyL N x) = x + 65 * ((N - 1 : Nat) : Int) := by
    unfold ticks manyL
    rw [List.foldl_cons]
    have e : tickS 0 ⟨1, x⟩ = x := by
      unfold tickS addT
      simp only [if_true]
      rw [inside_of (t := 0) (by omega) (by omega), inside_of (t := x) (by omega) (by omega), inside_of (t := 0 + x) (by omega) (by omega)]
      omega
    rw [e, ticks_rep _ _ hx.1 (by omega)]
  unfold rightA
  rw [h1, h2, manyL_len h.1]
  rfl
theorem many_text (N : Nat) (x : Int) : ∃ y ys, textL (manyL N x) = y :: ys := by
  refine ⟨114, ([117, 110, 32] ++ Lib.itoa x ++ [10]) ++ textL (List.replicate (N - 1) ⟨1, 65⟩), ?_⟩
  simp [textL, manyL, lineL, runW]
theorem many_ok (N : Nat) (x : Int) (hx : 0 ≤ x ∧ x ≤ 65536) : ∀ a ∈ manyL N x, a.ok := by
  intro a ha
  rcases List.mem_cons.1 ha with rfl | ha
  · unfold Ac.ok i64B; simp only; omega
  · rw [List.eq_of_mem_replicate ha]; unfold Ac.ok i64B; simp only; omega
theorem own_addr {w : World} {B s n : Nat} {T : TypeId} {a : Option Addr} {c : Nat} {xs : List Value} (h : w.ownsRow B T s (.slice a n c) n xs) (hn : 0 < n) : ∃ g, a = some ⟨g, 0, none⟩ ∧ B ≤ g := by
  obtain ⟨h1, h2⟩ := h
  rcases h2 with ⟨h3, h2⟩ | ⟨g, cap, cur, h3, hB, hg, h4⟩
  · omega
  · simp at h3
    exact ⟨g, h3.1, hB⟩
theorem index0 (g n c : Nat) (hn : 0 < n) (u : World) : (Instr.indexAt 22 (.slice (some ⟨g, 0, none⟩) n c) (.int .i64 0)).run Tryd.prog u = .ok (.pointer (some ⟨g, 0, none⟩)) u := by
  have hel : Tryd.prog.elem 22 = 43 := by simp [Program.elem, Tryd.underlying22]
  have := run_indexAt_slice (P := Tryd.prog) u 22 ⟨g, 0, none⟩ n c .i64 0 (by rw [hel]; exact Tryd.underlying22)
  rw [this, hel, sizeOf_run szAct, if_pos ⟨by omega, by omega⟩]
  simp [Result.andThen, Go.Proofs.YtldbaommeflooaaDoor.kit.add_plain]
set_option maxHeartbeats 8000000 in
theorem case_false_false (W : World) (hT : TabS W) :
    Calls Tryd.prog 6 #[.bool false, .bool false] W fun e W' => e = .returned (.bool true) ∧ Below W.heap.size W W' := by
  have HT := Lib.hid hT
  have HI0 := Lib.hid (info_parts infoAct)
  clear hT
  go_enter Tryd.func6, Tryd.ntmps6
  go_wp2
  go_loopw [5] (fun o wr => ∃ (j : Nat) (a : Option Addr) (c : Nat), o = .slice a j c ∧ Hid (j ≤ 1000) ∧ Hid (OwnA wr W.heap.size (.slice a (List.replicate j (⟨1, 65⟩ : Ac)).length c) (List.replicate j ⟨1, 65⟩)) ∧ Hid (Chg [] W wr)) (fun o _ => 1000 - (match o with | .slice _ n _ => n | _ => 0))
  case atStart => exact ⟨0, none, 0, rfl, Lib.hid (Nat.zero_le _), Lib.hid (World.ownsRow_nil ..), Lib.hid (Chg.refl _ _)⟩
  case round =>
    obtain ⟨j, a, c, rfl, HJ, HO, HC⟩ := hrel
    by_cases hlt : j < 1000
    · have m1 : (j : Int) < 1000 := by omega
      have HLT := Lib.hid hlt
      clear hlt
      have HOA : Hid (((wr.alloc (.cells #[.int .i64 1, .int .i64 65] 43)).ownsRow W.heap.size 43 2 (.slice a j c) j ((List.replicate j (⟨1, 65⟩ : Ac)).flatMap Ac.cells))) := Lib.hid (by have h8 := own_keep HO.out ((Chg.refl [] _).alloc (.cells #[.int .i64 1, .int .i64 65] 43)) (by simp); rwa [List.length_replicate] at h8)
      have HBN := Lib.hid (Blk.new wr #[.int .i64 1, .int .i64 65] 43)
      obtain ⟨i0, hi, hz0, hz1, hz2⟩ := HI0.out
      go_wp2_with (first | (at_builtin; refine wpList_append_row (o := ⟨some 20, _, _, _, _, _⟩) rfl (.tmp 17) (.tmp 19) 22 rfl W.heap.size 43 i0 (.agg #[.int .i64 0, .int .i64 0]) 2 16 Tryd.underlying22 hi hz0 hz1 hz2 rfl (by decide) _ _ _ rfl HOA.out wr.heap.size [.int .i64 1, .int .i64 65] rfl rfl (fun j u hu => HBN.out.cell (by rw [← Array.getElem?_toList]; exact hu)) ?c2 ?c3 ?c4 ?c5 ?_))
      case c2 => simp [Value.oneCell']
      case c3 => have := HLT.out; unfold maxLen; omega
      case c4 => have := HLT.out; omega
      case c5 => have := HC.out.size; simp; omega
      intro v3 w3 hown3 hgrow hblk
      have HOW : Hid (OwnA w3 W.heap.size v3 (List.replicate (j + 1) ⟨1, 65⟩)) := Lib.hid (by
        have h9 : OwnA w3 W.heap.size v3 (List.replicate j (⟨1, 65⟩ : Ac) ++ [⟨1, 65⟩]) := OwnA.snoc (by rw [List.length_replicate]; exact hown3)
        rwa [← List.replicate_succ'] at h9)
      have HGR : Hid (Chg [] W w3) := Lib.hid ((HC.out.alloc _).grown hgrow (fun q hq => .inr (World.ownsRow.lt HOA.out q hq).1))
      obtain ⟨a3, c3, rfl⟩ := own_open hown3
      clear hown3 hgrow hblk
      go_wp2
      have hlt := HLT.out
      go_roundw
      case rel => exact ⟨j + 1, a3, c3, by simp, Lib.hid (by omega), Lib.hid (by have h8 := HOW.out; rwa [List.length_replicate]), HGR⟩
      case measure => simp; omega
    · obtain rfl : j = 1000 := by have := HJ.out; omega
      clear hlt
      have hO := HO.out
      rw [manyL_rep (by decide), manyL_len (by decide)] at hO
      obtain ⟨g, rfl, hg⟩ := own_addr hO (by decide)
      have h1 := (World.ownsRow.stored hO 1 (.int .i64 601)).1
      rw [manyL_set] at h1
      have b0 : wr.cell? ⟨g, 1, none⟩ = some (.int .i64 65) := World.ownsRow.cellAt hO 1 (by decide)
      have f0 : wr.frozen? ⟨g, 1, none⟩ = false := World.ownsRow.frozenAt hO 1
      have ix := index0 g 1000 c (by decide)
      have HRA : Hid (Reads (wr.setCell ⟨g, 1, none⟩ (.int .i64 601)) 2 (.slice (some ⟨g, 0, none⟩) 1000 c) 1000 ((manyL 1000 601).flatMap Ac.cells)) := Lib.hid (Reads.of_own h1 (by decide))
      have HCW : Hid (Chg [] W (wr.setCell ⟨g, 1, none⟩ (.int .i64 601))) := Lib.hid ((HC.out.setCell (.inr hg) _))
      have hrt := many_right 1000 601 (by decide) (by decide)
      rw [show (decide (((1000 : Nat) : Int) ≤ 1000) && decide ((601 : Int) + 65 * (((1000 : Nat) - 1 : Nat) : Int) ≤ 65536)) = true by decide] at hrt
      have hok := many_ok 1000 601 (by decide)
      have hln := manyL_len (N := 1000) (by decide) 601
      obtain ⟨y, ys, hty⟩ := many_text 1000 601
      obtain ⟨ml, hml⟩ : ∃ ml, manyL 1000 601 = ml := ⟨_, rfl⟩
      rw [hml] at hrt hok hln HRA
      rw [hml] at hty
      have hp := fun u (h : Reads u 2 (.slice (some ⟨g, 0, none⟩) 1000 c) 1000 (ml.flatMap Ac.cells)) (hc : Chg [] W u) => Print_any (some ⟨g, 0, none⟩) c ml u ⟨by rw [hln]; exact h, hok⟩ (HT.out.keep hc)
      rw [show printR ml = (y :: ys, true) by unfold printR; rw [hrt, hty]; rfl, hln] at hp
      have hq := fun u (h : Reads u 2 (.slice (some ⟨g, 0, none⟩) 1000 c) 1000 (ml.flatMap Ac.cells)) => Right_any (some ⟨g, 0, none⟩) c ml u ⟨by rw [hln]; exact h, hok⟩
      rw [hrt, hln] at hq
      have HP := Lib.hid hp
      have HQ := Lib.hid hq
      clear hO h1 hty hp hq hrt hok hln hml
      go_wp2_with (first
        | (go_at_call 17; refine (HP.out _ HRA.out HCW.out).mono ?_; rintro e u1 ⟨rfl, h1⟩; have K1 := Lib.hid (HCW.out.trans h1); have R1 := Lib.hid (HRA.out.fresh h1); clear h1)
        | (go_at_call 11; refine (HQ.out _ R1.out).mono ?_; rintro e u2 ⟨rfl, h2⟩; have K2 := Lib.hid (K1.out.trans h2); clear h2)
        | (go_at_call 7; refine (awake_any _ (HT.out.keep K2.out)).mono ?_; rintro e u3 ⟨rfl, h3⟩; have K3 := Lib.hid (K2.out.trans h3); clear h3))
      go_ret
      exact ⟨rfl, K3.out.below⟩
set_option maxHeartbeats 8000000 in
theorem case_false_true (W : World) (hT : TabS W) :
    Calls Tryd.prog 6 #[.bool false, .bool true] W fun e W' => e = .returned (.bool true) ∧ Below W.heap.size W W' := by
  have HT := Lib.hid hT
  have HI0 := Lib.hid (info_parts infoAct)
  clear hT
  go_enter Tryd.func6, Tryd.ntmps6
  go_wp2
  go_loopw [5] (fun o wr => ∃ (j : Nat) (a : Option Addr) (c : Nat), o = .slice a j c ∧ Hid (j ≤ 1000) ∧ Hid (OwnA wr W.heap.size (.slice a (List.replicate j (⟨1, 65⟩ : Ac)).length c) (List.replicate j ⟨1, 65⟩)) ∧ Hid (Chg [] W wr)) (fun o _ => 1000 - (match o with | .slice _ n _ => n | _ => 0))
  case atStart => exact ⟨0, none, 0, rfl, Lib.hid (Nat.zero_le _), Lib.hid (World.ownsRow_nil ..), Lib.hid (Chg.refl _ _)⟩
  case round =>
    obtain ⟨j, a, c, rfl, HJ, HO, HC⟩ := hrel
    by_cases hlt : j < 1000
    · have m1 : (j : Int) < 1000 := by omega
      have HLT := Lib.hid hlt
      clear hlt
      have HOA : Hid (((wr.alloc (.cells #[.int .i64 1, .int .i64 65] 43)).ownsRow W.heap.size 43 2 (.slice a j c) j ((List.replicate j (⟨1, 65⟩ : Ac)).flatMap Ac.cells))) := Lib.hid (by have h8 := own_keep HO.out ((Chg.refl [] _).alloc (.cells #[.int .i64 1, .int .i64 65] 43)) (by simp); rwa [List.length_replicate] at h8)
      have HBN := Lib.hid (Blk.new wr #[.int .i64 1, .int .i64 65] 43)
      obtain ⟨i0, hi, hz0, hz1, hz2⟩ := HI0.out
      go_wp2_with (first | (at_builtin; refine wpList_append_row (o := ⟨some 20, _, _, _, _, _⟩) rfl (.tmp 17) (.tmp 19) 22 rfl W.heap.size 43 i0 (.agg #[.int .i64 0, .int .i64 0]) 2 16 Tryd.underlying22 hi hz0 hz1 hz2 rfl (by decide) _ _ _ rfl HOA.out wr.heap.size [.int .i64 1, .int .i64 65] rfl rfl (fun j u hu => HBN.out.cell (by rw [← Array.getElem?_toList]; exact hu)) ?c2 ?c3 ?c4 ?c5 ?_))
      case c2 => simp [Value.oneCell']
      case c3 => have := HLT.out; unfold maxLen; omega
      case c4 => have := HLT.out; omega
      case c5 => have := HC.out.size; simp; omega
      intro v3 w3 hown3 hgrow hblk
      have HOW : Hid (OwnA w3 W.heap.size v3 (List.replicate (j + 1) ⟨1, 65⟩)) := Lib.hid (by
        have h9 : OwnA w3 W.heap.size v3 (List.replicate j (⟨1, 65⟩ : Ac) ++ [⟨1, 65⟩]) := OwnA.snoc (by rw [List.length_replicate]; exact hown3)
        rwa [← List.replicate_succ'] at h9)
      have HGR : Hid (Chg [] W w3) := Lib.hid ((HC.out.alloc _).grown hgrow (fun q hq => .inr (World.ownsRow.lt HOA.out q hq).1))
      obtain ⟨a3, c3, rfl⟩ := own_open hown3
      clear hown3 hgrow hblk
      go_wp2
      have hlt := HLT.out
      go_roundw
      case rel => exact ⟨j + 1, a3, c3, by simp, Lib.hid (by omega), Lib.hid (by have h8 := HOW.out; rwa [List.length_replicate]), HGR⟩
      case measure => simp; omega
    · obtain rfl : j = 1000 := by have := HJ.out; omega
      clear hlt
      have hO := HO.out
      rw [manyL_rep (by decide), manyL_len (by decide)] at hO
      obtain ⟨g, rfl, hg⟩ := own_addr hO (by decide)
      have h1 := (World.ownsRow.stored hO 1 (.int .i64 601)).1
      rw [manyL_set] at h1
      have h2 := (World.ownsRow.stored h1 1 (.int .i64 602)).1
      rw [manyL_set] at h2
      have b1 : (wr.setCell ⟨g, 1, none⟩ (.int .i64 601)).cell? ⟨g, 1, none⟩ = some (.int .i64 601) := World.ownsRow.cellAt h1 1 (by decide)
      have f1 : (wr.setCell ⟨g, 1, none⟩ (.int .i64 601)).frozen? ⟨g, 1, none⟩ = false := World.ownsRow.frozenAt h1 1
      have b0 : wr.cell? ⟨g, 1, none⟩ = some (.int .i64 65) := World.ownsRow.cellAt hO 1 (by decide)
      have f0 : wr.frozen? ⟨g, 1, none⟩ = false := World.ownsRow.frozenAt hO 1
      have ix := index0 g 1000 c (by decide)
      have HRA : Hid (Reads ((wr.setCell ⟨g, 1, none⟩ (.int .i64 601)).setCell ⟨g, 1, none⟩ (.int .i64 602)) 2 (.slice (some ⟨g, 0, none⟩) 1000 c) 1000 ((manyL 1000 602).flatMap Ac.cells)) := Lib.hid (Reads.of_own h2 (by decide))
      have HCW : Hid (Chg [] W ((wr.setCell ⟨g, 1, none⟩ (.int .i64 601)).setCell ⟨g, 1, none⟩ (.int .i64 602))) := Lib.hid (((HC.out.setCell (.inr hg) _).setCell (.inr hg) _))
      have hrt := many_right 1000 602 (by decide) (by decide)
      rw [show (decide (((1000 : Nat) : Int) ≤ 1000) && decide ((602 : Int) + 65 * (((1000 : Nat) - 1 : Nat) : Int) ≤ 65536)) = false by decide] at hrt
      have hok := many_ok 1000 602 (by decide)
      have hln := manyL_len (N := 1000) (by decide) 602
      obtain ⟨ml, hml⟩ : ∃ ml, manyL 1000 602 = ml := ⟨_, rfl⟩
      rw [hml] at hrt hok hln HRA
      have hp := fun u (h : Reads u 2 (.slice (some ⟨g, 0, none⟩) 1000 c) 1000 (ml.flatMap Ac.cells)) (hc : Chg [] W u) => Print_any (some ⟨g, 0, none⟩) c ml u ⟨by rw [hln]; exact h, hok⟩ (HT.out.keep hc)
      rw [show printR ml = ([], false) by unfold printR; rw [hrt]; rfl, hln] at hp
      have hq := fun u (h : Reads u 2 (.slice (some ⟨g, 0, none⟩) 1000 c) 1000 (ml.flatMap Ac.cells)) => Right_any (some ⟨g, 0, none⟩) c ml u ⟨by rw [hln]; exact h, hok⟩
      rw [hrt, hln] at hq
      have HP := Lib.hid hp
      have HQ := Lib.hid hq
      clear hO h1 h2 hp hq hrt hok hln hml
      go_wp2_with (first
        | (go_at_call 17; refine (HP.out _ HRA.out HCW.out).mono ?_; rintro e u1 ⟨rfl, h1⟩; have K1 := Lib.hid (HCW.out.trans h1); have R1 := Lib.hid (HRA.out.fresh h1); clear h1)
        | (go_at_call 11; refine (HQ.out _ R1.out).mono ?_; rintro e u2 ⟨rfl, h2⟩; have K2 := Lib.hid (K1.out.trans h2); clear h2)
        | (go_at_call 7; refine (awake_any _ (HT.out.keep K2.out)).mono ?_; rintro e u3 ⟨rfl, h3⟩; have K3 := Lib.hid (K2.out.trans h3); clear h3))
      go_ret
      exact ⟨rfl, K3.out.below⟩
set_option maxHeartbeats 8000000 in
theorem case_true_false (W : World) (hT : TabS W) :
    Calls Tryd.prog 6 #[.bool true, .bool false] W fun e W' => e = .returned (.bool true) ∧ Below W.heap.size W W' := by
  have HT := Lib.hid hT
  have HI0 := Lib.hid (info_parts infoAct)
  clear hT
  go_enter Tryd.func6, Tryd.ntmps6
  go_wp2
  go_loopw [5] (fun o wr => ∃ (j : Nat) (a : Option Addr) (c : Nat), o = .slice a j c ∧ Hid (j ≤ 1000) ∧ Hid (OwnA wr W.heap.size (.slice a (List.replicate j (⟨1, 65⟩ : Ac)).length c) (List.replicate j ⟨1, 65⟩)) ∧ Hid (Chg [] W wr)) (fun o _ => 1000 - (match o with | .slice _ n _ => n | _ => 0))
  case atStart => exact ⟨0, none, 0, rfl, Lib.hid (Nat.zero_le _), Lib.hid (World.ownsRow_nil ..), Lib.hid (Chg.refl _ _)⟩
  case round =>
    obtain ⟨j, a, c, rfl, HJ, HO, HC⟩ := hrel
    by_cases hlt : j < 1000
    · have m1 : (j : Int) < 1000 := by omega
      have HLT := Lib.hid hlt
      clear hlt
      have HOA : Hid (((wr.alloc (.cells #[.int .i64 1, .int .i64 65] 43)).ownsRow W.heap.size 43 2 (.slice a j c) j ((List.replicate j (⟨1, 65⟩ : Ac)).flatMap Ac.cells))) := Lib.hid (by have h8 := own_keep HO.out ((Chg.refl [] _).alloc (.cells #[.int .i64 1, .int .i64 65] 43)) (by simp); rwa [List.length_replicate] at h8)
      have HBN := Lib.hid (Blk.new wr #[.int .i64 1, .int .i64 65] 43)
      obtain ⟨i0, hi, hz0, hz1, hz2⟩ := HI0.out
      go_wp2_with (first | (at_builtin; refine wpList_append_row (o := ⟨some 20, _, _, _, _, _⟩) rfl (.tmp 17) (.tmp 19) 22 rfl W.heap.size 43 i0 (.agg #[.int .i64 0, .int .i64 0]) 2 16 Tryd.underlying22 hi hz0 hz1 hz2 rfl (by decide) _ _ _ rfl HOA.out wr.heap.size [.int .i64 1, .int .i64 65] rfl rfl (fun j u hu => HBN.out.cell (by rw [← Array.getElem?_toList]; exact hu)) ?c2 ?c3 ?c4 ?c5 ?_))
      case c2 => simp [Value.oneCell']
      case c3 => have := HLT.out; unfold maxLen; omega
      case c4 => have := HLT.out; omega
      case c5 => have := HC.out.size; simp; omega
      intro v3 w3 hown3 hgrow hblk
      have HOW : Hid (OwnA w3 W.heap.size v3 (List.replicate (j + 1) ⟨1, 65⟩)) := Lib.hid (by
        have h9 : OwnA w3 W.heap.size v3 (List.replicate j (⟨1, 65⟩ : Ac) ++ [⟨1, 65⟩]) := OwnA.snoc (by rw [List.length_replicate]; exact hown3)
        rwa [← List.replicate_succ'] at h9)
      have HGR : Hid (Chg [] W w3) := Lib.hid ((HC.out.alloc _).grown hgrow (fun q hq => .inr (World.ownsRow.lt HOA.out q hq).1))
      obtain ⟨a3, c3, rfl⟩ := own_open hown3
      clear hown3 hgrow hblk
      go_wp2
      have hlt := HLT.out
      go_roundw
      case rel => exact ⟨j + 1, a3, c3, by simp, Lib.hid (by omega), Lib.hid (by have h8 := HOW.out; rwa [List.length_replicate]), HGR⟩
      case measure => simp; omega
    · obtain rfl : j = 1000 := by have := HJ.out; omega
      clear hlt
      have hO := HO.out
      rw [manyL_rep (by decide), manyL_len (by decide)] at hO
      obtain ⟨g, rfl, hg⟩ := own_addr hO (by decide)
      have h1 := (World.ownsRow.stored hO 1 (.int .i64 601)).1
      rw [manyL_set] at h1
      have b0 : wr.cell? ⟨g, 1, none⟩ = some (.int .i64 65) := World.ownsRow.cellAt hO 1 (by decide)
      have f0 : wr.frozen? ⟨g, 1, none⟩ = false := World.ownsRow.frozenAt hO 1
      have ix := index0 g 1000 c (by decide)
      have HRA : Hid (Reads (wr.setCell ⟨g, 1, none⟩ (.int .i64 601)) 2 (.slice (some ⟨g, 0, none⟩) 1000 c) 1000 ((manyL 1000 601).flatMap Ac.cells)) := Lib.hid (Reads.of_own h1 (by decide))
      have HCW : Hid (Chg [] W (wr.setCell ⟨g, 1, none⟩ (.int .i64 601))) := Lib.hid ((HC.out.setCell (.inr hg) _))
      have hrt := many_right 1000 601 (by decide) (by decide)
      rw [show (decide (((1000 : Nat) : Int) ≤ 1000) && decide ((601 : Int) + 65 * (((1000 : Nat) - 1 : Nat) : Int) ≤ 65536)) = true by decide] at hrt
      have hok := many_ok 1000 601 (by decide)
      have hln := manyL_len (N := 1000) (by decide) 601
      obtain ⟨y, ys, hty⟩ := many_text 1000 601
      obtain ⟨ml, hml⟩ : ∃ ml, manyL 1000 601 = ml := ⟨_, rfl⟩
      rw [hml] at hrt hok hln HRA
      rw [hml] at hty
      have hp := fun u (h : Reads u 2 (.slice (some ⟨g, 0, none⟩) 1000 c) 1000 (ml.flatMap Ac.cells)) (hc : Chg [] W u) => Print_any (some ⟨g, 0, none⟩) c ml u ⟨by rw [hln]; exact h, hok⟩ (HT.out.keep hc)
      rw [show printR ml = (y :: ys, true) by unfold printR; rw [hrt, hty]; rfl, hln] at hp
      have hq := fun u (h : Reads u 2 (.slice (some ⟨g, 0, none⟩) 1000 c) 1000 (ml.flatMap Ac.cells)) => Right_any (some ⟨g, 0, none⟩) c ml u ⟨by rw [hln]; exact h, hok⟩
      rw [hrt, hln] at hq
      have HP := Lib.hid hp
      have HQ := Lib.hid hq
      clear hO h1 hty hp hq hrt hok hln hml
      go_wp2_with (first
        | (go_at_call 17; refine (HP.out _ HRA.out HCW.out).mono ?_; rintro e u1 ⟨rfl, h1⟩; have K1 := Lib.hid (HCW.out.trans h1); have R1 := Lib.hid (HRA.out.fresh h1); clear h1)
        | (go_at_call 11; refine (HQ.out _ R1.out).mono ?_; rintro e u2 ⟨rfl, h2⟩; have K2 := Lib.hid (K1.out.trans h2); clear h2)
        | (go_at_call 7; refine (awake_any _ (HT.out.keep K2.out)).mono ?_; rintro e u3 ⟨rfl, h3⟩; have K3 := Lib.hid (K2.out.trans h3); clear h3))
      go_ret
      exact ⟨rfl, K3.out.below⟩
set_option maxHeartbeats 8000000 in
theorem case_true_true (W : World) (hT : TabS W) :
    Calls Tryd.prog 6 #[.bool true, .bool true] W fun e W' => e = .returned (.bool true) ∧ Below W.heap.size W W' := by
  have HT := Lib.hid hT
  have HI0 := Lib.hid (info_parts infoAct)
  clear hT
  go_enter Tryd.func6, Tryd.ntmps6
  go_wp2
  go_loopw [5] (fun o wr => ∃ (j : Nat) (a : Option Addr) (c : Nat), o = .slice a j c ∧ Hid (j ≤ 1001) ∧ Hid (OwnA wr W.heap.size (.slice a (List.replicate j (⟨1, 65⟩ : Ac)).length c) (List.replicate j ⟨1, 65⟩)) ∧ Hid (Chg [] W wr)) (fun o _ => 1001 - (match o with | .slice _ n _ => n | _ => 0))
  case atStart => exact ⟨0, none, 0, rfl, Lib.hid (Nat.zero_le _), Lib.hid (World.ownsRow_nil ..), Lib.hid (Chg.refl _ _)⟩
  case round =>
    obtain ⟨j, a, c, rfl, HJ, HO, HC⟩ := hrel
    by_cases hlt : j < 1001
    · have m1 : (j : Int) < 1001 := by omega
      have HLT := Lib.hid hlt
      clear hlt
      have HOA : Hid (((wr.alloc (.cells #[.int .i64 1, .int .i64 65] 43)).ownsRow W.heap.size 43 2 (.slice a j c) j ((List.replicate j (⟨1, 65⟩ : Ac)).flatMap Ac.cells))) := Lib.hid (by have h8 := own_keep HO.out ((Chg.refl [] _).alloc (.cells #[.int .i64 1, .int .i64 65] 43)) (by simp); rwa [List.length_replicate] at h8)
      have HBN := Lib.hid (Blk.new wr #[.int .i64 1, .int .i64 65] 43)
      obtain ⟨i0, hi, hz0, hz1, hz2⟩ := HI0.out
      go_wp2_with (first | (at_builtin; refine wpList_append_row (o := ⟨some 20, _, _, _, _, _⟩) rfl (.tmp 17) (.tmp 19) 22 rfl W.heap.size 43 i0 (.agg #[.int .i64 0, .int .i64 0]) 2 16 Tryd.underlying22 hi hz0 hz1 hz2 rfl (by decide) _ _ _ rfl HOA.out wr.heap.size [.int .i64 1, .int .i64 65] rfl rfl (fun j u hu => HBN.out.cell (by rw [← Array.getElem?_toList]; exact hu)) ?c2 ?c3 ?c4 ?c5 ?_))
      case c2 => simp [Value.oneCell']
      case c3 => have := HLT.out; unfold maxLen; omega
      case c4 => have := HLT.out; omega
      case c5 => have := HC.out.size; simp; omega
      intro v3 w3 hown3 hgrow hblk
      have HOW : Hid (OwnA w3 W.heap.size v3 (List.replicate (j + 1) ⟨1, 65⟩)) := Lib.hid (by
        have h9 : OwnA w3 W.heap.size v3 (List.replicate j (⟨1, 65⟩ : Ac) ++ [⟨1, 65⟩]) := OwnA.snoc (by rw [List.length_replicate]; exact hown3)
        rwa [← List.replicate_succ'] at h9)
      have HGR : Hid (Chg [] W w3) := Lib.hid ((HC.out.alloc _).grown hgrow (fun q hq => .inr (World.ownsRow.lt HOA.out q hq).1))
      obtain ⟨a3, c3, rfl⟩ := own_open hown3
      clear hown3 hgrow hblk
      go_wp2
      have hlt := HLT.out
      go_roundw
      case rel => exact ⟨j + 1, a3, c3, by simp, Lib.hid (by omega), Lib.hid (by have h8 := HOW.out; rwa [List.length_replicate]), HGR⟩
      case measure => simp; omega
    · obtain rfl : j = 1001 := by have := HJ.out; omega
      clear hlt
      have hO := HO.out
      rw [manyL_rep (by decide), manyL_len (by decide)] at hO
      obtain ⟨g, rfl, hg⟩ := own_addr hO (by decide)
      have h1 := (World.ownsRow.stored hO 1 (.int .i64 601)).1
      rw [manyL_set] at h1
      have h2 := (World.ownsRow.stored h1 1 (.int .i64 536)).1
      rw [manyL_set] at h2
      have b1 : (wr.setCell ⟨g, 1, none⟩ (.int .i64 601)).cell? ⟨g, 1, none⟩ = some (.int .i64 601) := World.ownsRow.cellAt h1 1 (by decide)
      have f1 : (wr.setCell ⟨g, 1, none⟩ (.int .i64 601)).frozen? ⟨g, 1, none⟩ = false := World.ownsRow.frozenAt h1 1
      have b0 : wr.cell? ⟨g, 1, none⟩ = some (.int .i64 65) := World.ownsRow.cellAt hO 1 (by decide)
      have f0 : wr.frozen? ⟨g, 1, none⟩ = false := World.ownsRow.frozenAt hO 1
      have ix := index0 g 1001 c (by decide)
      have HRA : Hid (Reads ((wr.setCell ⟨g, 1, none⟩ (.int .i64 601)).setCell ⟨g, 1, none⟩ (.int .i64 536)) 2 (.slice (some ⟨g, 0, none⟩) 1001 c) 1001 ((manyL 1001 536).flatMap Ac.cells)) := Lib.hid (Reads.of_own h2 (by decide))
      have HCW : Hid (Chg [] W ((wr.setCell ⟨g, 1, none⟩ (.int .i64 601)).setCell ⟨g, 1, none⟩ (.int .i64 536))) := Lib.hid (((HC.out.setCell (.inr hg) _).setCell (.inr hg) _))
      have hrt := many_right 1001 536 (by decide) (by decide)
      rw [show (decide (((1001 : Nat) : Int) ≤ 1000) && decide ((536 : Int) + 65 * (((1001 : Nat) - 1 : Nat) : Int) ≤ 65536)) = false by decide] at hrt
      have hok := many_ok 1001 536 (by decide)
      have hln := manyL_len (N := 1001) (by decide) 536
      obtain ⟨ml, hml⟩ : ∃ ml, manyL 1001 536 = ml := ⟨_, rfl⟩
      rw [hml] at hrt hok hln HRA
      have hp := fun u (h : Reads u 2 (.slice (some ⟨g, 0, none⟩) 1001 c) 1001 (ml.flatMap Ac.cells)) (hc : Chg [] W u) => Print_any (some ⟨g, 0, none⟩) c ml u ⟨by rw [hln]; exact h, hok⟩ (HT.out.keep hc)
      rw [show printR ml = ([], false) by unfold printR; rw [hrt]; rfl, hln] at hp
      have hq := fun u (h : Reads u 2 (.slice (some ⟨g, 0, none⟩) 1001 c) 1001 (ml.flatMap Ac.cells)) => Right_any (some ⟨g, 0, none⟩) c ml u ⟨by rw [hln]; exact h, hok⟩
      rw [hrt, hln] at hq
      have HP := Lib.hid hp
      have HQ := Lib.hid hq
      clear hO h1 h2 hp hq hrt hok hln hml
      go_wp2_with (first
        | (go_at_call 17; refine (HP.out _ HRA.out HCW.out).mono ?_; rintro e u1 ⟨rfl, h1⟩; have K1 := Lib.hid (HCW.out.trans h1); have R1 := Lib.hid (HRA.out.fresh h1); clear h1)
        | (go_at_call 11; refine (HQ.out _ R1.out).mono ?_; rintro e u2 ⟨rfl, h2⟩; have K2 := Lib.hid (K1.out.trans h2); clear h2)
        | (go_at_call 7; refine (awake_any _ (HT.out.keep K2.out)).mono ?_; rintro e u3 ⟨rfl, h3⟩; have K3 := Lib.hid (K2.out.trans h3); clear h3))
      go_ret
      exact ⟨rfl, K3.out.below⟩
theorem own : ownKnob Tryd.prog.godebug = none := by kernel_rfl
theorem laidOut : laidOutB Tryd.prog = true := by kernel_rfl

/-- The walk: the law returns true, and nothing that was there has turned. -/
theorem walk (w : World) (hT : scr.TabS w) (x0 : Bool) (x1 : Bool) :
    Calls Tryd.prog 6 #[.bool x0, .bool x1] w fun e w' => e = .returned (.bool true) ∧ Below w.heap.size w w' := by
  cases x0
  · cases x1
    · exact case_false_false w hT
    · exact case_false_true w hT
  · cases x1
    · exact case_true_false w hT
    · exact case_true_true w hT

set_option maxRecDepth 100000 in
theorem lifted (os : Os) (started : os.Started) (H : Type) (enc : TypeId × Value → H) :
    ReturnsInHanded {} Tryd.checked os 6 .any (fun w args => (Rows.scriptManySpec.pre enc Tryd.prog Tryd.f6 [] false w args ∧ laidMetH Tryd.prog scr.laids w) ∧ sizedMet enc Tryd.prog Tryd.f6 (OpenSpec.ofChange Rows.scriptManySpec) false w args) (Rows.scriptManySpec.post enc Tryd.prog Tryd.f6 false true false false) := by
  refine returnsInHanded_of_change_and (C := Tryd.checked) (X := fun w _ => laidMetH Tryd.prog scr.laids w) (fun _ _ _ hh h => h.of_heap hh) own started (by kernel_rfl) Tryd.func6
    (ChangeSpec.witness_shaped (enc := enc) (C := Tryd.checked) (os := os) (X := fun w _ => laidMetH Tryd.prog scr.laids w) false (World.doorLaid Tryd.prog 14 os) #[.bool false, .bool false] 8 rfl (World.shaped_of_RefB (by kernel_rfl) (by kernel_rfl)) (by kernel_rfl) (by kernel_rfl) (by kernel_rfl) (scr.door_met os _)) ?_
  intro W base args ds gs before hval0 hW hcnd _ hL _
  have hval : ∀ (j : Nat) t v, Tryd.f6.params[j]? = some t → args[j]? = some v → Value.okWide Tryd.prog W .any base t v := hval0
  have hW' := hW
  obtain ⟨p, q, hA0, hV, rfl, hfz, hnd⟩ := hW
  have hA : DataW.TrodAll enc Tryd.prog W 0 (fun _ => true) true Tryd.f6.params.toList args.toList ds p := hA0
  rw [Tryd.params6] at hA hval
  obtain ⟨v0, vs0, d0, ds0, p0, q0, hargs, rfl, rfl, h0, r0⟩ := trodAll_cons hA
  obtain ⟨v1, vs1, d1, ds1, p1, q1, rfl, rfl, rfl, h1, r1⟩ := trodAll_cons r0
  obtain ⟨rfl, rfl, rfl⟩ := trodAll_nil r1
  obtain rfl : args = #[v0, v1] := by cases args; simp_all
  obtain ⟨rfl, rfl⟩ := trodVars_none hV
  have k0 := h0
  have lt0 : ∀ x ∈ p0, x.block < W.heap.size := by obtain ⟨m, hm⟩ := k0; exact DataW.trod_lt m _ _ _ hm
  have k1 := h1
  have lt1 : ∀ x ∈ p1, x.block < W.heap.size := by obtain ⟨m, hm⟩ := k1; exact DataW.trod_lt m _ _ _ hm
  obtain ⟨x0, rfl, _, _⟩ := open_bool Tryd.underlying4 (hval 0 4 v0 rfl rfl) h0
  obtain ⟨x1, rfl, _, _⟩ := open_bool Tryd.underlying4 (hval 1 4 v1 rfl rfl) h1
  clear hA0 hval0
  refine (walk W (scr.tab_of_laid hL) x0 x1).mono fun e W' ⟨he, bel⟩ => ?_
  subst he
  exact ⟨_, rfl, _, _, _, [], _, [], hW', trodAll_mk1 (shut_bool Tryd.underlying4 _), (trodAll_cons_mk (Below.trod laidOut (by kernel_rfl) (of_decide_eq_true (by kernel_rfl)) k0 bel lt0) (trodAll_cons_mk (Below.trod laidOut (by kernel_rfl) (of_decide_eq_true (by kernel_rfl)) k1 bel lt1) trodAll_mk0)), rfl, bel.frame _, fun h => by cases h⟩

theorem over : Rows.scriptManyRow.holds Tryd.pinned (OpenSpec.ofChange Rows.scriptManySpec) :=
  OpenClaim.holds_of_wide 6 Tryd.f6 rfl rfl rfl rfl rfl rfl rfl ⟨rfl, rfl, rfl, rfl, rfl⟩ rfl rfl rfl rfl rfl (by kernel_rfl) Tryd.func6 (by kernel_rfl)
    (of_decide_eq_true (by kernel_rfl)) (by unfold Func.isWrapper; first | (rw [if_pos (by decide +kernel)]; kernel_rfl) | (rw [if_neg (by decide +kernel)]; exact ⟨rfl, rfl⟩))
    (fun os started H enc _ => lifted os started H enc)

/-- The statement: the tied card. -/
theorem proved : Rows.ScriptManyCardSaid :=
  Claim7.holds_tied_plain_at .later [] [.data, .data, .data] true (true, "5ad266ddbacf19eb2d4e245618c96aa0d9b965cafe5b7a3353f98a923426863b") false
    over (fun _ h => by cases h) (by kernel_rfl) (fun _ h => by cases h) scriptMany_row_tie rfl ⟨rfl, rfl⟩ (by kernel_rfl) rfl
    (fun f fn hf hfn => by
      obtain rfl : f = 6 := Option.some.inj ((show Tryd.prog.funcNamed "coxswain/coxswainlaw42.ScriptMany" = some 6 by kernel_rfl).symm.trans hf) |>.symm
      obtain rfl : fn = Tryd.f6 := (Option.some.inj (Tryd.func6.symm.trans hfn)).symm
      exact ⟨by kernel_rfl, fun j t ht => by
        rw [Tryd.params6] at ht
        have hm : t ∈ [4, 4] := by simpa using Array.mem_of_getElem? ht
        have hall : ([4, 4].all fun u => !Tryd.prog.wantsStandIn u) = true := by kernel_rfl
        exact (show Tryd.prog.wantsStandIn t = false by simpa using List.all_eq_true.1 hall t hm)⟩)
    (by kernel_rfl)
end Go.Proofs.YtldbaommeflooaaDoor.scriptMany
