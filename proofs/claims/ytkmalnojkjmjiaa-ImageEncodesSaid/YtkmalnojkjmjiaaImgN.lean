/- Images: the law's awake. -/
import Derived.Test.YtkmalnojkjmjiaaImgJ
import Derived.Test.YtkmalnojkjmjiaaImgM
namespace Go.Proofs.Ytkmalnojkjmjiaa.img
open Go Go.RowKit Go.Proofs.Ytkmalnojkjmjiaa.kit Go.Proofs.Ytkmalnojkjmjiaa.obj Go.Proofs.Ytkmalnojkjmjiaa.mem Go.Proofs.Ytkmalnojkjmjiaa.lay Go.Proofs.Ytkmalnojkjmjiaa.codec
set_option linter.unusedVariables false
set_option linter.unusedSimpArgs false
set_option maxRecDepth 20000
theorem readsB_lit (zs : List Int) (c : Array Value) (T : TypeId) (hc : c.toList = zs.map (Value.int .u8)) (V : World) (h : Nat) (hh : h = V.heap.size) (n : Nat) (hn : n = zs.length) (hl : zs.length ≤ 1000) (hw : ∀ x ∈ zs, (Lit.int .u8 x).wf = true) : ReadsB (V.alloc (.cells c T)) (.slice (some ⟨h, 0, none⟩) n n) zs := by
  subst hh hn
  have hr := reads_lit V c T zs.length (by rw [← Array.length_toList, hc, List.length_map]) (by unfold maxLen; omega)
  rw [hc] at hr
  exact ⟨hr, hw⟩
theorem nilDT (w : World) : ReadsDT w (.slice none ([] : List DT).length 0) [] := ⟨⟨Reads.nil _ _, by simp⟩, by simp⟩
theorem nilDO (w : World) : ReadsDO w (.slice none ([] : List DO).length 0) [] := ⟨Reads.nil _ _, by simp⟩
set_option maxHeartbeats 4000000 in
theorem awake_any (W : World) : Calls Try.prog 7 #[] W fun e W' => e = .returned (.bool true) ∧ Chg [] W W' := by
  have h1 : hasI (([] : List DT).map DT.p) (([] : List DO).map DO.p) = true := by decide +kernel
  have h2 : imageOf (([] : List DT).map DT.p) (([] : List DO).map DO.p) = [67, 88, 1, 0, 0, 156, 0] := by decide +kernel
  have h3 : decE [67, 88, 1, 0, 0, 156, 0] = 0 := by decide +kernel
  have h4 : sumM [67, 88, 1, 0, 0, 156, 0] = 312 := by decide +kernel
  have hw : ∀ x ∈ ([67, 88, 1, 0, 0, 156, 0] : List Int), (Lit.int .u8 x).wf = true := by decide +kernel
  have HE := Lib.hid (Encode_any none 0 none 0 [] [] W (nilDT _) (nilDO _) ⟨by decide, by decide⟩ ⟨by simp, by simp⟩)
  rw [h1, h2] at HE
  have HD := Lib.hid (fun (v : Value) (V : World) (h : ReadsB V v [67, 88, 1, 0, 0, 156, 0]) => Decode_any v [67, 88, 1, 0, 0, 156, 0] V h (by decide))
  rw [h3] at HD
  have HS := Lib.hid (fun (v : Value) (V : World) (h : ReadsB V v [67, 88, 1, 0, 0, 156, 0]) => Sum_any v [67, 88, 1, 0, 0, 156, 0] V h (by decide))
  rw [h4] at HS
  have HW := Lib.hid hw
  clear h1 h2 h3 h4 hw
  go_enter Try.func7, Try.ntmps7
  go_wp2_with (first | (go_at_call 12; refine HE.out.mono ?_; rintro e w1 ⟨v1, rfl, ho, hc⟩; (obtain ⟨a1, c1, rfl, -⟩ := reads_slice (Reads.of_own ho (by decide))); have HR1 := Lib.hid (ho.reads HW.out); have HC1 := Lib.hid hc; clear ho hc) | (go_at_call 8; refine (HD.out _ _ (readsB_lit [67, 88, 1, 0, 0, 156, 0] #[.int .u8 67, .int .u8 88, .int .u8 1, .int .u8 0, .int .u8 0, .int .u8 156, .int .u8 0] 5 rfl w1 _ (by simp) 7 rfl (by simp) HW.out)).mono ?_; rintro e w2 ⟨ta, tc, oa, oc, ts, os, rfl, hok, hdt, hdo, hc⟩; have HC2 := Lib.hid ((HC1.out.alloc _).trans hc); have HR2 := Lib.hid (HR1.out.chg (((Chg.refl [] w1).alloc _).trans hc)); clear hok hdt hdo hc) | (go_at_call 13; refine (Bytes_any _ _ [67, 88, 1, 0, 0, 156, 0] [67, 88, 1, 0, 0, 156, 0] _ ((HR2.out.chg ((Chg.refl [] w2).alloc _)).chg ((Chg.refl [] _).alloc _)) (readsB_lit [67, 88, 1, 0, 0, 156, 0] #[.int .u8 67, .int .u8 88, .int .u8 1, .int .u8 0, .int .u8 0, .int .u8 156, .int .u8 0] 5 rfl _ _ (by simp) 7 rfl (by simp) HW.out)).mono ?_; rintro e w3 ⟨rfl, rfl⟩; rw [decide_eq_true (rfl : ([67, 88, 1, 0, 0, 156, 0] : List Int) = [67, 88, 1, 0, 0, 156, 0])]) | (go_at_call 16; refine (HS.out _ _ ((HR2.out.chg ((Chg.refl [] w2).alloc _)).chg ((Chg.refl [] _).alloc _))).mono ?_; rintro e w4 ⟨rfl, hc⟩; have HC4 := Lib.hid (((HC2.out.alloc _).alloc _).trans hc); clear hc))
  go_ret
  exact ⟨rfl, HC4.out⟩
end Go.Proofs.Ytkmalnojkjmjiaa.img
