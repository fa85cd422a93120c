/-
  coxswainlaw42.ScriptBack returns true for every l and s: right acts come back from their text; what is parsed is printed so. No conditions.
-/
import Derived.Test.YtldbaommeflooaaDoorRows
import Derived.WalkKit
import Derived.ProofKit
import Derived.OpenShut
import Derived.ShutString
import Derived.ChangeOld
import Derived.Below
import Derived.Test.YtldbaommeflooaaDoorOpen
import Derived.Test.YtldbaommeflooaaDoorScrT
import Derived.Test.YtldbaommeflooaaDoorCards
import Derived.Test.YtldbaommeflooaaDoorTie
import Derived.SevenTiedAt
import Derived.Stop.Joined
import Derived.Test.YtldbaommeflooaaDoorScrU
namespace Go.Proofs.YtldbaommeflooaaDoor.scriptBack
open Go.ChangeShapes Go.WideShapes Go.ChangeAt Go.RowKit
open Go.ChangeMaps (open_string shut_string)
set_option linter.unusedVariables false
open Go.Proofs.YtldbaommeflooaaDoor.kit Go.Proofs.YtldbaommeflooaaDoor.scr
set_option linter.unusedSimpArgs false
set_option maxRecDepth 100000
theorem parseR_len (s : List UInt8) : (parseR s).1.length ≤ s.length := by
  unfold parseR
  split
  · simp
  · cases h : parseP (linesL s) with
    | error e => simp
    | ok acc =>
      have h1 := parseP_len _ _ h
      have h2 := (linesL_len s.length s (Nat.le_refl _)).1
      simp only
      split
      · simp only; omega
      · simp
set_option maxHeartbeats 4000000 in
theorem big (a0 : Option Addr) (l c : Nat) (s : List UInt8) (hl : ¬ (l ≤ 1100 ∧ s.length ≤ 3000)) (W : World) (hT : TabS W) :
    Calls Tryd.prog 5 #[.slice a0 l c, strV s] W fun e W' => e = .returned (.bool true) ∧ Below W.heap.size W W' := by
  have HT := Lib.hid hT
  have hsz : (ByteArray.mk s.toArray).size = s.length := by simp [ByteArray.size]
  by_cases h1 : l ≤ 1100
  · have m1 : ¬ (1100 : Int) < (l : Int) := by omega
    have m2 : (3000 : Int) < (s.length : Int) := by omega
    clear hT hl h1
    go_enter Tryd.func5, Tryd.ntmps5
    go_wp2_with (go_at_call 7; refine (awake_any _ HT.out).mono ?_; rintro e w1 ⟨rfl, hc1⟩)
    go_ret
    exact ⟨rfl, hc1.below⟩
  · have m1 : (1100 : Int) < (l : Int) := by omega
    clear hT hl h1
    go_enter Tryd.func5, Tryd.ntmps5
    go_wp2_with (go_at_call 7; refine (awake_any _ HT.out).mono ?_; rintro e w1 ⟨rfl, hc1⟩)
    go_ret
    exact ⟨rfl, hc1.below⟩
set_option maxHeartbeats 8000000 in
theorem good_true_1 (va : Option Addr) (lc : Nat) (l : List Ac) (s : List UInt8) (W : World) (hr : ReadsA W (.slice va l.length lc) l) (hlen : l.length ≤ 1100) (hs : s.length ≤ 3000) (hT : TabS W) (hra : rightA l = true) (hz : (parseR s).2.2 = 0) :
    Calls Tryd.prog 5 #[.slice va l.length lc, strV s] W fun e W' => e = .returned (.bool true) ∧ Below W.heap.size W W' := by
  have m1 : ¬ (1100 : Int) < (l.length : Int) := by omega
  have m2 : ¬ (3000 : Int) < (s.length : Int) := by omega
  have hsz : (ByteArray.mk s.toArray).size = s.length := by simp [ByteArray.size]
  have HT := Lib.hid hT
  have HRA := Lib.hid hr
  have HLL : Hid (l.length ≤ 1000000) := Lib.hid (by omega)
  have h1 := fun u (h : Chg [] W u) => Print_any va lc l u (hr.fresh h) (hT.keep h)
  have HRT := Lib.hid (fun u (h : Chg [] W u) => Right_any va lc l u (hr.fresh h))
  rw [hra] at HRT
  rw [show printR l = (textL l, true) by unfold printR; rw [hra]; rfl] at h1
  have hpl : (textL l).length ≤ 65536 := by have h8 := textL_len l (rightA_parts hra).1; omega
  have h2 := fun u (h : Chg [] W u) => Parse_small (textL l) hpl u (hT.keep h)
  rw [parse_print hra] at h2
  obtain ⟨px, hpx⟩ : ∃ px, textL l = px := ⟨_, rfl⟩
  rw [hpx] at h1 h2
  clear hpx hpl
  have h4 := fun u (h : Chg [] W u) => Parse_small s (by omega) u (hT.keep h)
  obtain ⟨ak, hak⟩ : ∃ ak, (parseR s).2.1 = ak := ⟨_, rfl⟩
  simp only [hak] at h4
  obtain ⟨hrb, htb⟩ := print_parse hz
  simp only [hz] at h4
  obtain ⟨bx, hbx⟩ : ∃ bx, (parseR s).1 = bx := ⟨_, rfl⟩
  rw [hbx] at hrb htb
  simp only [hbx] at h4
  have h5 := fun u a c (h : Chg [] W u) (hb : Reads u 2 (.slice a bx.length c) bx.length (bx.flatMap Ac.cells)) => Print_any a c bx u ⟨hb, fun x hx => oneB_ok (List.all_eq_true.1 (rightA_parts hrb).1 x hx)⟩ (hT.keep h)
  rw [show printR bx = (s, true) by unfold printR; rw [hrb, htb]; rfl] at h5
  have H5 := Lib.hid (fun u a c h hb => h5 u a c h hb)
  clear hbx hrb htb h5
  have H1 := Lib.hid h1
  have H2 := Lib.hid h2
  have H4 := Lib.hid h4
  clear hr hlen hs hT h1 h2 h4 hak hra hz
  go_enter Tryd.func5, Tryd.ntmps5
  go_wp2_with (first
    | (go_at_call 17; (with_reducible refine (H1.out _ (Chg.refl _ _)).mono ?_); rintro e u1 ⟨rfl, h1⟩; have K1 := Lib.hid h1; clear h1)
    | (go_at_call 19; (with_reducible refine (H2.out _ K1.out).mono ?_); rintro e u2 ⟨v2, rfl, ho2, h2⟩; have HR2 := Lib.hid (Reads.of_own ho2 (by decide)); obtain ⟨a2, c2, rfl⟩ := own_open ho2; have K2 := Lib.hid (K1.out.trans h2); clear h2 ho2)
    | (go_at_call 11; refine (HRT.out _ K2.out).mono ?_; rintro e u3 ⟨rfl, h3⟩; have K3 := Lib.hid (K2.out.trans h3); have J3 := Lib.hid h3; clear h3)
    | (go_at_call 21; refine (Acts_any _ _ l l _ (HR2.out.fresh J3.out) (HRA.out.1.fresh K3.out) HLL.out HLL.out).mono ?_; rintro e u4 ⟨rfl, h4⟩; have K4 := Lib.hid (K3.out.quiet h4); clear h4)
    | (go_at_call 19; refine (H4.out _ K4.out).mono ?_; rintro e u5 ⟨v5, rfl, ho5, h5⟩; have HR5 := Lib.hid (Reads.of_own ho5 (by decide)); obtain ⟨a5, c5, rfl⟩ := own_open ho5; have K5 := Lib.hid (K4.out.trans h5); clear h5 ho5)
    | (go_at_call 17; refine (H5.out _ _ _ K5.out HR5.out).mono ?_; rintro e u6 ⟨rfl, h6⟩; have K6 := Lib.hid (K5.out.trans h6); clear h6)
    | (go_at_call 7; refine (awake_any _ (HT.out.keep K6.out)).mono ?_; rintro e u7 ⟨rfl, h7⟩; have K7 := Lib.hid (K6.out.trans h7); clear h7))
  go_ret
  exact ⟨rfl, K7.out.below⟩
set_option maxHeartbeats 8000000 in
theorem good_true_0 (va : Option Addr) (lc : Nat) (l : List Ac) (s : List UInt8) (W : World) (hr : ReadsA W (.slice va l.length lc) l) (hlen : l.length ≤ 1100) (hs : s.length ≤ 3000) (hT : TabS W) (hra : rightA l = true) (hz : (parseR s).2.2 ≠ 0) :
    Calls Tryd.prog 5 #[.slice va l.length lc, strV s] W fun e W' => e = .returned (.bool true) ∧ Below W.heap.size W W' := by
  have m1 : ¬ (1100 : Int) < (l.length : Int) := by omega
  have m2 : ¬ (3000 : Int) < (s.length : Int) := by omega
  have hsz : (ByteArray.mk s.toArray).size = s.length := by simp [ByteArray.size]
  have HT := Lib.hid hT
  have HRA := Lib.hid hr
  have HLL : Hid (l.length ≤ 1000000) := Lib.hid (by omega)
  have h1 := fun u (h : Chg [] W u) => Print_any va lc l u (hr.fresh h) (hT.keep h)
  have HRT := Lib.hid (fun u (h : Chg [] W u) => Right_any va lc l u (hr.fresh h))
  rw [hra] at HRT
  rw [show printR l = (textL l, true) by unfold printR; rw [hra]; rfl] at h1
  have hpl : (textL l).length ≤ 65536 := by have h8 := textL_len l (rightA_parts hra).1; omega
  have h2 := fun u (h : Chg [] W u) => Parse_small (textL l) hpl u (hT.keep h)
  rw [parse_print hra] at h2
  obtain ⟨px, hpx⟩ : ∃ px, textL l = px := ⟨_, rfl⟩
  rw [hpx] at h1 h2
  clear hpx hpl
  have h4 := fun u (h : Chg [] W u) => Parse_small s (by omega) u (hT.keep h)
  obtain ⟨ak, hak⟩ : ∃ ak, (parseR s).2.1 = ak := ⟨_, rfl⟩
  simp only [hak] at h4
  have hbx := parse_bad hz
  obtain ⟨ae, hae⟩ : ∃ ae, (parseR s).2.2 = ae := ⟨_, rfl⟩
  rw [hae] at hz
  simp only [hae, hbx] at h4
  have hzb : (ae == 0) = false := by simpa using hz
  have hzc : ¬ ae = 0 := hz
  have h5 := fun u a c (h : Chg [] W u) (hb : Reads u 2 (.slice a 0 c) 0 (([] : List Ac).flatMap Ac.cells)) => Print_any a c [] u ⟨hb, by simp⟩ (hT.keep h)
  rw [show printR [] = ([], true) by decide] at h5
  have H5 := Lib.hid (fun u a c h hb => h5 u a c h hb)
  clear hae hbx h5
  have H1 := Lib.hid h1
  have H2 := Lib.hid h2
  have H4 := Lib.hid h4
  clear hr hlen hs hT h1 h2 h4 hak hra hz
  go_enter Tryd.func5, Tryd.ntmps5
  go_wp2_with (first
    | (go_at_call 17; (with_reducible refine (H1.out _ (Chg.refl _ _)).mono ?_); rintro e u1 ⟨rfl, h1⟩; have K1 := Lib.hid h1; clear h1)
    | (go_at_call 19; (with_reducible refine (H2.out _ K1.out).mono ?_); rintro e u2 ⟨v2, rfl, ho2, h2⟩; have HR2 := Lib.hid (Reads.of_own ho2 (by decide)); obtain ⟨a2, c2, rfl⟩ := own_open ho2; have K2 := Lib.hid (K1.out.trans h2); clear h2 ho2)
    | (go_at_call 11; refine (HRT.out _ K2.out).mono ?_; rintro e u3 ⟨rfl, h3⟩; have K3 := Lib.hid (K2.out.trans h3); have J3 := Lib.hid h3; clear h3)
    | (go_at_call 21; refine (Acts_any _ _ l l _ (HR2.out.fresh J3.out) (HRA.out.1.fresh K3.out) HLL.out HLL.out).mono ?_; rintro e u4 ⟨rfl, h4⟩; have K4 := Lib.hid (K3.out.quiet h4); clear h4)
    | (go_at_call 19; refine (H4.out _ K4.out).mono ?_; rintro e u5 ⟨v5, rfl, ho5, h5⟩; have HR5 := Lib.hid (Reads.of_own ho5 (by decide)); obtain ⟨a5, c5, rfl⟩ := own_open ho5; have K5 := Lib.hid (K4.out.trans h5); clear h5 ho5)
    | (go_at_call 17; refine (H5.out _ _ _ K5.out HR5.out).mono ?_; rintro e u6 ⟨rfl, h6⟩; have K6 := Lib.hid (K5.out.trans h6); clear h6)
    | (go_at_call 7; refine (awake_any _ (HT.out.keep K6.out)).mono ?_; rintro e u7 ⟨rfl, h7⟩; have K7 := Lib.hid (K6.out.trans h7); clear h7))
  go_ret
  exact ⟨rfl, K7.out.below⟩
set_option maxHeartbeats 8000000 in
theorem good_false_1 (va : Option Addr) (lc : Nat) (l : List Ac) (s : List UInt8) (W : World) (hr : ReadsA W (.slice va l.length lc) l) (hlen : l.length ≤ 1100) (hs : s.length ≤ 3000) (hT : TabS W) (hra : rightA l = false) (hz : (parseR s).2.2 = 0) :
    Calls Tryd.prog 5 #[.slice va l.length lc, strV s] W fun e W' => e = .returned (.bool true) ∧ Below W.heap.size W W' := by
  have m1 : ¬ (1100 : Int) < (l.length : Int) := by omega
  have m2 : ¬ (3000 : Int) < (s.length : Int) := by omega
  have hsz : (ByteArray.mk s.toArray).size = s.length := by simp [ByteArray.size]
  have HT := Lib.hid hT
  have HRA := Lib.hid hr
  have HLL : Hid (l.length ≤ 1000000) := Lib.hid (by omega)
  have h1 := fun u (h : Chg [] W u) => Print_any va lc l u (hr.fresh h) (hT.keep h)
  have HRT := Lib.hid (fun u (h : Chg [] W u) => Right_any va lc l u (hr.fresh h))
  rw [hra] at HRT
  rw [show printR l = ([], false) by unfold printR; rw [hra]; rfl] at h1
  have h2 := fun u (h : Chg [] W u) => Parse_small [] (by decide) u (hT.keep h)
  rw [show parseR [] = ([], 0, 0) from parse_print (l := []) (by decide)] at h2
  have h4 := fun u (h : Chg [] W u) => Parse_small s (by omega) u (hT.keep h)
  obtain ⟨ak, hak⟩ : ∃ ak, (parseR s).2.1 = ak := ⟨_, rfl⟩
  simp only [hak] at h4
  obtain ⟨hrb, htb⟩ := print_parse hz
  simp only [hz] at h4
  obtain ⟨bx, hbx⟩ : ∃ bx, (parseR s).1 = bx := ⟨_, rfl⟩
  rw [hbx] at hrb htb
  simp only [hbx] at h4
  have h5 := fun u a c (h : Chg [] W u) (hb : Reads u 2 (.slice a bx.length c) bx.length (bx.flatMap Ac.cells)) => Print_any a c bx u ⟨hb, fun x hx => oneB_ok (List.all_eq_true.1 (rightA_parts hrb).1 x hx)⟩ (hT.keep h)
  rw [show printR bx = (s, true) by unfold printR; rw [hrb, htb]; rfl] at h5
  have H5 := Lib.hid (fun u a c h hb => h5 u a c h hb)
  clear hbx hrb htb h5
  have H1 := Lib.hid h1
  have H2 := Lib.hid h2
  have H4 := Lib.hid h4
  clear hr hlen hs hT h1 h2 h4 hak hra hz
  go_enter Tryd.func5, Tryd.ntmps5
  go_wp2_with (first
    | (go_at_call 17; (with_reducible refine (H1.out _ (Chg.refl _ _)).mono ?_); rintro e u1 ⟨rfl, h1⟩; have K1 := Lib.hid h1; clear h1)
    | (go_at_call 19; (with_reducible refine (H2.out _ K1.out).mono ?_); rintro e u2 ⟨v2, rfl, ho2, h2⟩; have HR2 := Lib.hid (Reads.of_own ho2 (by decide)); obtain ⟨a2, c2, rfl⟩ := own_open ho2; have K2 := Lib.hid (K1.out.trans h2); clear h2 ho2)
    | (go_at_call 11; refine (HRT.out _ K2.out).mono ?_; rintro e u3 ⟨rfl, h3⟩; have K3 := Lib.hid (K2.out.trans h3); have J3 := Lib.hid h3; clear h3)
    | (go_at_call 19; refine (H4.out _ K3.out).mono ?_; rintro e u5 ⟨v5, rfl, ho5, h5⟩; have HR5 := Lib.hid (Reads.of_own ho5 (by decide)); obtain ⟨a5, c5, rfl⟩ := own_open ho5; have K5 := Lib.hid (K3.out.trans h5); clear h5 ho5)
    | (go_at_call 17; refine (H5.out _ _ _ K5.out HR5.out).mono ?_; rintro e u6 ⟨rfl, h6⟩; have K6 := Lib.hid (K5.out.trans h6); clear h6)
    | (go_at_call 7; refine (awake_any _ (HT.out.keep K6.out)).mono ?_; rintro e u7 ⟨rfl, h7⟩; have K7 := Lib.hid (K6.out.trans h7); clear h7))
  go_ret
  exact ⟨rfl, K7.out.below⟩
set_option maxHeartbeats 8000000 in
theorem good_false_0 (va : Option Addr) (lc : Nat) (l : List Ac) (s : List UInt8) (W : World) (hr : ReadsA W (.slice va l.length lc) l) (hlen : l.length ≤ 1100) (hs : s.length ≤ 3000) (hT : TabS W) (hra : rightA l = false) (hz : (parseR s).2.2 ≠ 0) :
    Calls Tryd.prog 5 #[.slice va l.length lc, strV s] W fun e W' => e = .returned (.bool true) ∧ Below W.heap.size W W' := by
  have m1 : ¬ (1100 : Int) < (l.length : Int) := by omega
  have m2 : ¬ (3000 : Int) < (s.length : Int) := by omega
  have hsz : (ByteArray.mk s.toArray).size = s.length := by simp [ByteArray.size]
  have HT := Lib.hid hT
  have HRA := Lib.hid hr
  have HLL : Hid (l.length ≤ 1000000) := Lib.hid (by omega)
  have h1 := fun u (h : Chg [] W u) => Print_any va lc l u (hr.fresh h) (hT.keep h)
  have HRT := Lib.hid (fun u (h : Chg [] W u) => Right_any va lc l u (hr.fresh h))
  rw [hra] at HRT
  rw [show printR l = ([], false) by unfold printR; rw [hra]; rfl] at h1
  have h2 := fun u (h : Chg [] W u) => Parse_small [] (by decide) u (hT.keep h)
  rw [show parseR [] = ([], 0, 0) from parse_print (l := []) (by decide)] at h2
  have h4 := fun u (h : Chg [] W u) => Parse_small s (by omega) u (hT.keep h)
  obtain ⟨ak, hak⟩ : ∃ ak, (parseR s).2.1 = ak := ⟨_, rfl⟩
  simp only [hak] at h4
  have hbx := parse_bad hz
  obtain ⟨ae, hae⟩ : ∃ ae, (parseR s).2.2 = ae := ⟨_, rfl⟩
  rw [hae] at hz
  simp only [hae, hbx] at h4
  have hzb : (ae == 0) = false := by simpa using hz
  have hzc : ¬ ae = 0 := hz
  have h5 := fun u a c (h : Chg [] W u) (hb : Reads u 2 (.slice a 0 c) 0 (([] : List Ac).flatMap Ac.cells)) => Print_any a c [] u ⟨hb, by simp⟩ (hT.keep h)
  rw [show printR [] = ([], true) by decide] at h5
  have H5 := Lib.hid (fun u a c h hb => h5 u a c h hb)
  clear hae hbx h5
  have H1 := Lib.hid h1
  have H2 := Lib.hid h2
  have H4 := Lib.hid h4
  clear hr hlen hs hT h1 h2 h4 hak hra hz
  go_enter Tryd.func5, Tryd.ntmps5
  go_wp2_with (first
    | (go_at_call 17; (with_reducible refine (H1.out _ (Chg.refl _ _)).mono ?_); rintro e u1 ⟨rfl, h1⟩; have K1 := Lib.hid h1; clear h1)
    | (go_at_call 19; (with_reducible refine (H2.out _ K1.out).mono ?_); rintro e u2 ⟨v2, rfl, ho2, h2⟩; have HR2 := Lib.hid (Reads.of_own ho2 (by decide)); obtain ⟨a2, c2, rfl⟩ := own_open ho2; have K2 := Lib.hid (K1.out.trans h2); clear h2 ho2)
    | (go_at_call 11; refine (HRT.out _ K2.out).mono ?_; rintro e u3 ⟨rfl, h3⟩; have K3 := Lib.hid (K2.out.trans h3); have J3 := Lib.hid h3; clear h3)
    | (go_at_call 19; refine (H4.out _ K3.out).mono ?_; rintro e u5 ⟨v5, rfl, ho5, h5⟩; have HR5 := Lib.hid (Reads.of_own ho5 (by decide)); obtain ⟨a5, c5, rfl⟩ := own_open ho5; have K5 := Lib.hid (K3.out.trans h5); clear h5 ho5)
    | (go_at_call 17; refine (H5.out _ _ _ K5.out HR5.out).mono ?_; rintro e u6 ⟨rfl, h6⟩; have K6 := Lib.hid (K5.out.trans h6); clear h6)
    | (go_at_call 7; refine (awake_any _ (HT.out.keep K6.out)).mono ?_; rintro e u7 ⟨rfl, h7⟩; have K7 := Lib.hid (K6.out.trans h7); clear h7))
  go_ret
  exact ⟨rfl, K7.out.below⟩
theorem own : ownKnob Tryd.prog.godebug = none := by kernel_rfl
theorem laidOut : laidOutB Tryd.prog = true := by kernel_rfl

/-- The walk: the law returns true, and nothing that was there has turned. -/
theorem walk (w : World) (hT : scr.TabS w) (a0 : Option Addr) (len0 cap0 : Nat) (o0 : kit.Opens Tryd.prog w 9 22 [.slice a0 len0 cap0]) (s1 : ByteArray) (hs1 : s1.size ≤ maxLen) :
    Calls Tryd.prog 5 #[.slice a0 len0 cap0, .string s1] w fun e w' => e = .returned (.bool true) ∧ Below w.heap.size w w' := by
  obtain ⟨l, hl, hr⟩ := acts_open (n := 6) o0
  subst hl
  obtain ⟨s, rfl⟩ : ∃ s : List UInt8, s1 = ⟨s.toArray⟩ := ⟨s1.data.toList, by cases s1; simp⟩
  by_cases h : l.length ≤ 1100 ∧ s.length ≤ 3000
  · by_cases hz : (parseR s).2.2 = 0
    · cases hra : rightA l
      · exact good_false_1 a0 cap0 l s w hr h.1 h.2 hT hra hz
      · exact good_true_1 a0 cap0 l s w hr h.1 h.2 hT hra hz
    · cases hra : rightA l
      · exact good_false_0 a0 cap0 l s w hr h.1 h.2 hT hra hz
      · exact good_true_0 a0 cap0 l s w hr h.1 h.2 hT hra hz
  · exact big a0 l.length cap0 s h w hT

set_option maxRecDepth 100000 in
theorem lifted (os : Os) (started : os.Started) (H : Type) (enc : TypeId × Value → H) :
    ReturnsInHanded {} Tryd.checked os 5 .any (fun w args => (Rows.scriptBackSpec.pre enc Tryd.prog Tryd.f5 [] false w args ∧ laidMetH Tryd.prog scr.laids w) ∧ sizedMet enc Tryd.prog Tryd.f5 (OpenSpec.ofChange Rows.scriptBackSpec) false w args) (Rows.scriptBackSpec.post enc Tryd.prog Tryd.f5 false true false false) := by
  refine returnsInHanded_of_change_and (C := Tryd.checked) (X := fun w _ => laidMetH Tryd.prog scr.laids w) (fun _ _ _ hh h => h.of_heap hh) own started (by kernel_rfl) Tryd.func5
    (ChangeSpec.witness_shaped (enc := enc) (C := Tryd.checked) (os := os) (X := fun w _ => laidMetH Tryd.prog scr.laids w) false (World.doorLaid Tryd.prog 14 os) #[.slice none 0 0, .string .empty] 8 rfl (World.shaped_of_RefB (by kernel_rfl) (by kernel_rfl)) (by kernel_rfl) (by kernel_rfl) (by kernel_rfl) (scr.door_met os _)) ?_
  intro W base args ds gs before hval0 hW hcnd _ hL _
  have hval : ∀ (j : Nat) t v, Tryd.f5.params[j]? = some t → args[j]? = some v → Value.okWide Tryd.prog W .any base t v := hval0
  have hW' := hW
  obtain ⟨p, q, hA0, hV, rfl, hfz, hnd⟩ := hW
  have hA : DataW.TrodAll enc Tryd.prog W 0 (fun _ => true) true Tryd.f5.params.toList args.toList ds p := hA0
  rw [Tryd.params5] at hA hval
  obtain ⟨v0, vs0, d0, ds0, p0, q0, hargs, rfl, rfl, h0, r0⟩ := trodAll_cons hA
  obtain ⟨v1, vs1, d1, ds1, p1, q1, rfl, rfl, rfl, h1, r1⟩ := trodAll_cons r0
  obtain ⟨rfl, rfl, rfl⟩ := trodAll_nil r1
  obtain rfl : args = #[v0, v1] := by cases args; simp_all
  obtain ⟨rfl, rfl⟩ := trodVars_none hV
  have k0 := h0
  have lt0 : ∀ x ∈ p0, x.block < W.heap.size := by obtain ⟨m, hm⟩ := k0; exact DataW.trod_lt m _ _ _ hm
  have k1 := h1
  have lt1 : ∀ x ∈ p1, x.block < W.heap.size := by obtain ⟨m, hm⟩ := k1; exact DataW.trod_lt m _ _ _ hm
  obtain ⟨a0, len0, cap0, rfl⟩ := okWide_slice Tryd.underlying22 (hval 0 22 v0 rfl rfl)
  have o0 : kit.Opens Tryd.prog W 9 22 [.slice a0 len0 cap0] := by simpa [Value.cells] using kit.Trod_opens 9 k0
  obtain ⟨s1, rfl, _, _, hs1⟩ := open_string Tryd.underlying9 (hval 1 9 v1 rfl rfl) h1
  clear hA0 hval0
  refine (walk W (scr.tab_of_laid hL) a0 len0 cap0 o0 s1 hs1).mono fun e W' ⟨he, bel⟩ => ?_
  subst he
  exact ⟨_, rfl, _, _, _, [], _, [], hW', trodAll_mk1 (shut_bool Tryd.underlying4 _), (trodAll_cons_mk (Below.trod laidOut (by kernel_rfl) (of_decide_eq_true (by kernel_rfl)) k0 bel lt0) (trodAll_cons_mk (Below.trod laidOut (by kernel_rfl) (of_decide_eq_true (by kernel_rfl)) k1 bel lt1) trodAll_mk0)), rfl, bel.frame _, fun h => by cases h⟩

theorem over : Rows.scriptBackRow.holds Tryd.pinned (OpenSpec.ofChange Rows.scriptBackSpec) :=
  OpenClaim.holds_of_wide 5 Tryd.f5 rfl rfl rfl rfl rfl rfl rfl ⟨rfl, rfl, rfl, rfl, rfl⟩ rfl rfl rfl rfl rfl (by kernel_rfl) Tryd.func5 (by kernel_rfl)
    (of_decide_eq_true (by kernel_rfl)) (by unfold Func.isWrapper; first | (rw [if_pos (by decide +kernel)]; kernel_rfl) | (rw [if_neg (by decide +kernel)]; exact ⟨rfl, rfl⟩))
    (fun os started H enc _ => lifted os started H enc)

/-- The statement: the tied card. -/
theorem proved : Rows.ScriptBackCardSaid :=
  Claim7.holds_tied_plain_at .later [] [.data, .data, .data] true (true, "5ad266ddbacf19eb2d4e245618c96aa0d9b965cafe5b7a3353f98a923426863b") false
    over (fun _ h => by cases h) (by kernel_rfl) (fun _ h => by cases h) scriptBack_row_tie rfl ⟨rfl, rfl⟩ (by kernel_rfl) rfl
    (fun f fn hf hfn => by
      obtain rfl : f = 5 := Option.some.inj ((show Tryd.prog.funcNamed "coxswain/coxswainlaw42.ScriptBack" = some 5 by kernel_rfl).symm.trans hf) |>.symm
      obtain rfl : fn = Tryd.f5 := (Option.some.inj (Tryd.func5.symm.trans hfn)).symm
      exact ⟨by kernel_rfl, fun j t ht => by
        rw [Tryd.params5] at ht
        have hm : t ∈ [22, 9] := by simpa using Array.mem_of_getElem? ht
        have hall : ([22, 9].all fun u => !Tryd.prog.wantsStandIn u) = true := by kernel_rfl
        exact (show Tryd.prog.wantsStandIn t = false by simpa using List.all_eq_true.1 hall t hm)⟩)
    (by kernel_rfl)
end Go.Proofs.YtldbaommeflooaaDoor.scriptBack
