/- The reference's operation: the rows of the kind of a sequence that may fail. -/
import Derived.Test.YtjplamoofkcojaaRefS
namespace Go.Proofs.Ytjplamoofkcojaa.ref
open Go Go.RowKit Go.Proofs.Ytjplamoofkcojaa.kit Go.Proofs.Ytjplamoofkcojaa.obj Go.Proofs.Ytjplamoofkcojaa.rop
set_option linter.unusedVariables false
set_option linter.unusedSimpArgs false
set_option maxRecDepth 20000
variable {tn : Nat}
/-- an attempt has failed -/
def triedR (x : ROp) : ROp := if x.c ≤ x.tries + 1 then ({ x with tries := x.tries + 1, rcd := .slice none 0 0, row := 0, i := 0 } : ROp).ended 1 else { x with tries := x.tries + 1, rcd := .slice none 0 0, row := 0, i := 0 }
theorem fail_lit (bx : Nat) (x : ROp) (b : Bool) (hb : decide (x.c ≤ x.tries + 1) = b) (ht : 0 ≤ x.tries ∧ x.tries ≤ 1000000) (W : World) (h : RAt W bx x) :
    Calls Try.prog 73 #[.pointer (some ⟨bx, 0, none⟩)] W fun e W' => e = .returned (.bool b) ∧ RAt W' bx { x with tries := x.tries + 1, rcd := .slice none 0 0, row := 0, i := 0 } ∧ Chg [bx] W W' :=
  (fail_core bx x W h ht).mono (by rintro e w ⟨rfl, h1, h2⟩; exact ⟨by rw [hb], h1, h2⟩)
set_option maxHeartbeats 4000000 in
theorem seqRead_0 (bx g o m cp : Nat) (x : ROp) (ws : List Int) (W : World) (h : RAt W bx { x with row := 0 }) (hl : LT tn W g ws) (hwf : ∀ z ∈ ws, 0 ≤ z ∧ z ≤ 4294967295) (hm : 1 ≤ m) (hmc : m ≤ cp) (hom : o + m ≤ ws.length) (hne1 : bx ≠ g) (ht : 0 ≤ x.tries ∧ x.tries ≤ 1000000) :
    Calls Try.prog 44 #[.pointer (some ⟨bx, 0, none⟩), .slice (some ⟨g, o, none⟩) m cp] W fun e W' => e = .returned (.tuple #[]) ∧ RAt W' bx (if ws.getD (o + 0) 0 % 2 = 1 then triedR ({ x with row := 0, a := ws.getD (o + 0) 0 } : ROp) else { ({ x with row := 0 } : ROp) with a := ws.getD (o + 0) 0, row := 1, i := 0 }) ∧ LT tn W' g ws ∧ Chg [bx] W W' := by
  have HB : Hid (Blk W bx ({ x with row := 0 } : ROp).cells 45) := Lib.hid h
  have HL := Lib.hid hl
  have HT := Lib.hid ht
  have hj1 : o + 0 < ws.length := by omega
  have c1 : W.cell? ⟨g, o, none⟩ = some (.int .u32 (ws.getD (o + 0) 0)) := LT.word HL.out (o + 0) hj1
  have b1 : 0 ≤ ws.getD (o + 0) 0 ∧ ws.getD (o + 0) 0 ≤ 4294967295 := hwf _ (by rw [List.getD_eq_getElem?_getD, List.getElem?_eq_getElem hj1]; exact List.getElem_mem hj1)
  generalize ws.getD (o + 0) 0 = v1 at *
  generalize hpost : (if v1 % 2 = 1 then triedR ({ x with row := 0, a := v1 } : ROp) else { ({ x with row := 0 } : ROp) with a := v1, row := 1, i := 0 }) = yy
  have HPOST := Lib.hid hpost
  have e11 : W.cell? ⟨bx, 11, none⟩ = some (.int .i64 0) := HB.out.cell rfl
  have e16 : W.cell? ⟨bx, 16, none⟩ = some (.int .u32 x.a) := HB.out.cell rfl
  have f16 := HB.out.free 16
  have hm1 : 0 < m := by omega
  have hne1b : ¬ g = bx := fun hh => hne1 hh.symm
  clear h hl hwf hom hj1 ht hpost
  by_cases hf : v1 % 2 = 1
  · skip
    by_cases hc : x.c ≤ x.tries + 1
    · skip
      have HP : Hid (yy = ({ ({ x with row := 0, a := v1 } : ROp) with tries := x.tries + 1, rcd := .slice none 0 0, row := 0, i := 0 } : ROp).ended 1) := Lib.hid (by rw [← HPOST.out, if_pos hf]; unfold triedR; rw [if_pos (show ({ x with row := 0, a := v1 } : ROp).c ≤ ({ x with row := 0, a := v1 } : ROp).tries + 1 from hc)])
      have HF : Hid (decide (({ x with row := 0, a := v1 } : ROp).c ≤ ({ x with row := 0, a := v1 } : ROp).tries + 1) = true) := Lib.hid (by simpa using hc)
      have hq : (v1 % 2 == 1) = true := by simpa using hf
      have hq2 : decide (v1 % 2 = 1) = true := by simpa using hf
      clear hc
      go_enter Try.func44, Try.ntmps44
      have HBC : Hid (Blk (W.setCell ⟨bx, 16, none⟩ (.int .u32 v1)) bx ({ x with row := 0, a := v1 } : ROp).cells 45) := Lib.hid (HB.out.set 16 (.int .u32 v1))
      go_wp2_with (first | (go_at_call 73; refine (fail_lit bx ({ x with row := 0, a := v1 } : ROp) _ HF.out HT.out _ HBC.out).mono ?_; rintro e W6 ⟨rfl, hr6, hc6⟩; have HR6 := Lib.hid hr6; have HC6 := Lib.hid hc6; clear hr6 hc6) | (go_at_call 70; refine (end_any bx _ 1 _ HR6.out).mono ?_; rintro e W7 ⟨rfl, hr7, hc7⟩; have HR7 := Lib.hid hr7; have HC7 := Lib.hid (HC6.out.trans hc7); clear hr7 hc7))
      go_end0
      exact ⟨rfl, by rw [HP.out]; exact HR7.out, LT.keep (LT.set_ne HL.out hne1b _ _ _) HC7.out (by simp; exact hne1b), ((Chg.refl [bx] W).setCell (.inl (by simp)) _).trans HC7.out⟩
    · skip
      have HP : Hid (yy = { ({ x with row := 0, a := v1 } : ROp) with tries := x.tries + 1, rcd := .slice none 0 0, row := 0, i := 0 }) := Lib.hid (by rw [← HPOST.out, if_pos hf]; unfold triedR; rw [if_neg (show ¬ ({ x with row := 0, a := v1 } : ROp).c ≤ ({ x with row := 0, a := v1 } : ROp).tries + 1 from hc)])
      have HF : Hid (decide (({ x with row := 0, a := v1 } : ROp).c ≤ ({ x with row := 0, a := v1 } : ROp).tries + 1) = false) := Lib.hid (by simpa using hc)
      have hq : (v1 % 2 == 1) = true := by simpa using hf
      have hq2 : decide (v1 % 2 = 1) = true := by simpa using hf
      clear hc
      go_enter Try.func44, Try.ntmps44
      have HBC : Hid (Blk (W.setCell ⟨bx, 16, none⟩ (.int .u32 v1)) bx ({ x with row := 0, a := v1 } : ROp).cells 45) := Lib.hid (HB.out.set 16 (.int .u32 v1))
      go_wp2_with (go_at_call 73; refine (fail_lit bx ({ x with row := 0, a := v1 } : ROp) _ HF.out HT.out _ HBC.out).mono ?_; rintro e W6 ⟨rfl, hr6, hc6⟩; have HR6 := Lib.hid hr6; have HC6 := Lib.hid hc6; clear hr6 hc6)
      go_end0
      exact ⟨rfl, by rw [HP.out]; exact HR6.out, LT.keep (LT.set_ne HL.out hne1b _ _ _) HC6.out (by simp; exact hne1b), ((Chg.refl [bx] W).setCell (.inl (by simp)) _).trans HC6.out⟩
  · skip
    have HP : Hid (yy = { ({ x with row := 0 } : ROp) with a := v1, row := 1, i := 0 }) := Lib.hid (HPOST.out.symm.trans (if_neg hf))
    have hq : (v1 % 2 == 1) = false := by simpa using hf
    have hq2 : decide (v1 % 2 = 1) = false := by simpa using hf
    go_enter Try.func44, Try.ntmps44
    have HBC : Hid (Blk (W.setCell ⟨bx, 16, none⟩ (.int .u32 v1)) bx ({ x with row := 0, a := v1 } : ROp).cells 45) := Lib.hid (HB.out.set 16 (.int .u32 v1))
    go_wp2_with (go_at_call 68; refine (to_any bx ({ x with row := 0, a := v1 } : ROp) 1 _ HBC.out).mono ?_; rintro e W7 ⟨rfl, hr7, hc7⟩; have HR7 := Lib.hid hr7; have HC7 := Lib.hid hc7; clear hr7 hc7)
    go_end0
    exact ⟨rfl, by rw [HP.out]; exact HR7.out, LT.keep (LT.set_ne HL.out hne1b _ _ _) HC7.out (by simp; exact hne1b), ((Chg.refl [bx] W).setCell (.inl (by simp)) _).trans HC7.out⟩
set_option maxHeartbeats 4000000 in
theorem seqRead_2 (bx g o m cp : Nat) (x : ROp) (ws : List Int) (W : World) (h : RAt W bx { x with row := 2 }) (hl : LT tn W g ws) (hwf : ∀ z ∈ ws, 0 ≤ z ∧ z ≤ 4294967295) (hm : 1 ≤ m) (hmc : m ≤ cp) (hom : o + m ≤ ws.length) (hne1 : bx ≠ g) (ht : 0 ≤ x.tries ∧ x.tries ≤ 1000000) :
    Calls Try.prog 44 #[.pointer (some ⟨bx, 0, none⟩), .slice (some ⟨g, o, none⟩) m cp] W fun e W' => e = .returned (.tuple #[]) ∧ RAt W' bx (if ws.getD (o + 0) 0 = x.a then ({ x with row := 2 } : ROp).ended 0 else triedR ({ x with row := 2 } : ROp)) ∧ LT tn W' g ws ∧ Chg [bx] W W' := by
  have HB : Hid (Blk W bx ({ x with row := 2 } : ROp).cells 45) := Lib.hid h
  have HL := Lib.hid hl
  have HT := Lib.hid ht
  have hj1 : o + 0 < ws.length := by omega
  have c1 : W.cell? ⟨g, o, none⟩ = some (.int .u32 (ws.getD (o + 0) 0)) := LT.word HL.out (o + 0) hj1
  have b1 : 0 ≤ ws.getD (o + 0) 0 ∧ ws.getD (o + 0) 0 ≤ 4294967295 := hwf _ (by rw [List.getD_eq_getElem?_getD, List.getElem?_eq_getElem hj1]; exact List.getElem_mem hj1)
  generalize ws.getD (o + 0) 0 = v1 at *
  generalize hpost : (if v1 = x.a then ({ x with row := 2 } : ROp).ended 0 else triedR ({ x with row := 2 } : ROp)) = yy
  have HPOST := Lib.hid hpost
  have e11 : W.cell? ⟨bx, 11, none⟩ = some (.int .i64 2) := HB.out.cell rfl
  have e16 : W.cell? ⟨bx, 16, none⟩ = some (.int .u32 x.a) := HB.out.cell rfl
  have f16 := HB.out.free 16
  have hm1 : 0 < m := by omega
  have hne1b : ¬ g = bx := fun hh => hne1 hh.symm
  clear h hl hwf hom hj1 ht hpost
  by_cases hf : v1 = x.a
  · skip
    have HP : Hid (yy = ({ x with row := 2 } : ROp).ended 0) := Lib.hid (HPOST.out.symm.trans (if_pos hf))
    have hq : (v1 != x.a) = false := by simpa using hf
    have hq2 : (v1 == x.a) = true := by simpa using hf
    go_enter Try.func44, Try.ntmps44
    go_wp2_with fail
    have eS0 : W.cell? ⟨g, o, none⟩ = some (.int .u32 v1) := c1
    have eS1 : W.cell? ⟨bx, 16, none⟩ = some (.int .u32 x.a) := e16
    have KEEP := Lib.hid (fun (V : World) (h : Chg [] W V) => (⟨h.keep eS0 (by simp), h.keep eS1 (by simp), Lib.hid h⟩ : (fun V : World => V.cell? ⟨g, o, none⟩ = some (.int .u32 v1) ∧ V.cell? ⟨bx, 16, none⟩ = some (.int .u32 x.a) ∧ Hid (Chg [] W V)) V))
    clear eS0 eS1 c1 e16 e11
    have hHeld : (fun V : World => V.cell? ⟨g, o, none⟩ = some (.int .u32 v1) ∧ V.cell? ⟨bx, 16, none⟩ = some (.int .u32 x.a) ∧ Hid (Chg [] W V)) (World.drew W) := KEEP.out _ (Chg.refl _ _).drew
    refine wp_region_plan (fun V : World => V.cell? ⟨g, o, none⟩ = some (.int .u32 v1) ∧ V.cell? ⟨bx, 16, none⟩ = some (.int .u32 x.a) ∧ Hid (Chg [] W V)) [(0, true, some 34), (1, true, some 35), (2, true, some 36), (3, true, some 37), (4, true, some 38), (5, true, some 39), (6, true, some 40), (7, true, some 41), (8, true, some 4)] (by kernel_rfl) (by kernel_rfl) (by kernel_rfl) (by kernel_rfl) (fun d c a v w h => by cases d <;> exact h) hHeld ?_
    repeat (first
      | (refine planWp_read (v := ?_) rfl rfl ?_ ?_ ?_; rotate_left; (focus rfl); (focus (intro u hSw; (try dsimp only at hSw); go_simp; (try with_reducible rfl))); (try simp only [Act.put, List.setIfInBounds_toArray, List.set_cons_zero, List.set_cons_succ]))
      | (refine planWp_skip rfl rfl ?_ ?_; (focus rfl); (try simp only [Act.put, List.setIfInBounds_toArray, List.set_cons_zero, List.set_cons_succ]))
      | (refine planWp_leave rfl rfl ?_ hHeld ?_; (focus rfl); (try simp only [Act.put, List.setIfInBounds_toArray, List.set_cons_zero, List.set_cons_succ]))
      | (refine planWp_do rfl rfl ?_ (fun K hK => ?_); (focus rfl); go_simp; (try go_wp2_with fail); refine hK.out _ _ ?_ (fun hHeld2 => ?_); (focus (exact KEEP.out _ (Chg.trans hHeld.2.2.out HCX.out))); clear hK K hHeld; have hHeld := hHeld2; clear hHeld2; (try simp only [Act.put, List.setIfInBounds_toArray, List.set_cons_zero, List.set_cons_succ])))
    refine planWp_nil ?_
    have HBC : Hid (Blk W.drew bx ({ x with row := 2 } : ROp).cells 45) := Lib.hid (HB.out.keep hHeld.2.2.out (by simp))
    clear hHeld KEEP
    go_wp2_with (go_at_call 70; refine (end_any bx ({ x with row := 2 } : ROp) 0 _ HBC.out).mono ?_; rintro e W7 ⟨rfl, hr7, hc7⟩; have HR7 := Lib.hid hr7; have HC7 := Lib.hid hc7; clear hr7 hc7)
    go_end0
    exact ⟨rfl, by rw [HP.out]; exact HR7.out, LT.keep (LT.drew HL.out) HC7.out (by simp; exact hne1b), ((Chg.refl [] W).drew.mono (by simp)).trans HC7.out⟩
  · skip
    by_cases hc : x.c ≤ x.tries + 1
    · skip
      have HP : Hid (yy = ({ ({ x with row := 2 } : ROp) with tries := x.tries + 1, rcd := .slice none 0 0, row := 0, i := 0 } : ROp).ended 1) := Lib.hid (by rw [← HPOST.out, if_neg hf]; unfold triedR; rw [if_pos (show ({ x with row := 2 } : ROp).c ≤ ({ x with row := 2 } : ROp).tries + 1 from hc)])
      have HF : Hid (decide (({ x with row := 2 } : ROp).c ≤ ({ x with row := 2 } : ROp).tries + 1) = true) := Lib.hid (by simpa using hc)
      have hq : (v1 != x.a) = true := by simpa using hf
      have hq2 : (v1 == x.a) = false := by simpa using hf
      clear hc
      go_enter Try.func44, Try.ntmps44
      go_wp2_with fail
      have eS0 : W.cell? ⟨g, o, none⟩ = some (.int .u32 v1) := c1
      have eS1 : W.cell? ⟨bx, 16, none⟩ = some (.int .u32 x.a) := e16
      have KEEP := Lib.hid (fun (V : World) (h : Chg [] W V) => (⟨h.keep eS0 (by simp), h.keep eS1 (by simp), Lib.hid h⟩ : (fun V : World => V.cell? ⟨g, o, none⟩ = some (.int .u32 v1) ∧ V.cell? ⟨bx, 16, none⟩ = some (.int .u32 x.a) ∧ Hid (Chg [] W V)) V))
      clear eS0 eS1 c1 e16 e11
      have hHeld : (fun V : World => V.cell? ⟨g, o, none⟩ = some (.int .u32 v1) ∧ V.cell? ⟨bx, 16, none⟩ = some (.int .u32 x.a) ∧ Hid (Chg [] W V)) (World.drew W) := KEEP.out _ (Chg.refl _ _).drew
      refine wp_region_plan (fun V : World => V.cell? ⟨g, o, none⟩ = some (.int .u32 v1) ∧ V.cell? ⟨bx, 16, none⟩ = some (.int .u32 x.a) ∧ Hid (Chg [] W V)) [(0, true, some 34), (1, true, some 35), (2, true, some 36), (3, true, some 37), (4, true, some 38), (5, true, some 39), (6, true, some 40), (7, true, some 41), (8, true, some 4)] (by kernel_rfl) (by kernel_rfl) (by kernel_rfl) (by kernel_rfl) (fun d c a v w h => by cases d <;> exact h) hHeld ?_
      repeat (first
        | (refine planWp_read (v := ?_) rfl rfl ?_ ?_ ?_; rotate_left; (focus rfl); (focus (intro u hSw; (try dsimp only at hSw); go_simp; (try with_reducible rfl))); (try simp only [Act.put, List.setIfInBounds_toArray, List.set_cons_zero, List.set_cons_succ]))
        | (refine planWp_skip rfl rfl ?_ ?_; (focus rfl); (try simp only [Act.put, List.setIfInBounds_toArray, List.set_cons_zero, List.set_cons_succ]))
        | (refine planWp_leave rfl rfl ?_ hHeld ?_; (focus rfl); (try simp only [Act.put, List.setIfInBounds_toArray, List.set_cons_zero, List.set_cons_succ]))
        | (refine planWp_do rfl rfl ?_ (fun K hK => ?_); (focus rfl); go_simp; (try go_wp2_with fail); refine hK.out _ _ ?_ (fun hHeld2 => ?_); (focus (exact KEEP.out _ (Chg.trans hHeld.2.2.out HCX.out))); clear hK K hHeld; have hHeld := hHeld2; clear hHeld2; (try simp only [Act.put, List.setIfInBounds_toArray, List.set_cons_zero, List.set_cons_succ])))
      refine planWp_nil ?_
      have HBC : Hid (Blk W.drew bx ({ x with row := 2 } : ROp).cells 45) := Lib.hid (HB.out.keep hHeld.2.2.out (by simp))
      clear hHeld KEEP
      go_wp2_with (first | (go_at_call 73; refine (fail_lit bx ({ x with row := 2 } : ROp) _ HF.out HT.out _ HBC.out).mono ?_; rintro e W6 ⟨rfl, hr6, hc6⟩; have HR6 := Lib.hid hr6; have HC6 := Lib.hid hc6; clear hr6 hc6) | (go_at_call 70; refine (end_any bx _ 1 _ HR6.out).mono ?_; rintro e W7 ⟨rfl, hr7, hc7⟩; have HR7 := Lib.hid hr7; have HC7 := Lib.hid (HC6.out.trans hc7); clear hr7 hc7))
      go_end0
      exact ⟨rfl, by rw [HP.out]; exact HR7.out, LT.keep (LT.drew HL.out) HC7.out (by simp; exact hne1b), ((Chg.refl [] W).drew.mono (by simp)).trans HC7.out⟩
    · skip
      have HP : Hid (yy = { ({ x with row := 2 } : ROp) with tries := x.tries + 1, rcd := .slice none 0 0, row := 0, i := 0 }) := Lib.hid (by rw [← HPOST.out, if_neg hf]; unfold triedR; rw [if_neg (show ¬ ({ x with row := 2 } : ROp).c ≤ ({ x with row := 2 } : ROp).tries + 1 from hc)])
      have HF : Hid (decide (({ x with row := 2 } : ROp).c ≤ ({ x with row := 2 } : ROp).tries + 1) = false) := Lib.hid (by simpa using hc)
      have hq : (v1 != x.a) = true := by simpa using hf
      have hq2 : (v1 == x.a) = false := by simpa using hf
      clear hc
      go_enter Try.func44, Try.ntmps44
      go_wp2_with fail
      have eS0 : W.cell? ⟨g, o, none⟩ = some (.int .u32 v1) := c1
      have eS1 : W.cell? ⟨bx, 16, none⟩ = some (.int .u32 x.a) := e16
      have KEEP := Lib.hid (fun (V : World) (h : Chg [] W V) => (⟨h.keep eS0 (by simp), h.keep eS1 (by simp), Lib.hid h⟩ : (fun V : World => V.cell? ⟨g, o, none⟩ = some (.int .u32 v1) ∧ V.cell? ⟨bx, 16, none⟩ = some (.int .u32 x.a) ∧ Hid (Chg [] W V)) V))
      clear eS0 eS1 c1 e16 e11
      have hHeld : (fun V : World => V.cell? ⟨g, o, none⟩ = some (.int .u32 v1) ∧ V.cell? ⟨bx, 16, none⟩ = some (.int .u32 x.a) ∧ Hid (Chg [] W V)) (World.drew W) := KEEP.out _ (Chg.refl _ _).drew
      refine wp_region_plan (fun V : World => V.cell? ⟨g, o, none⟩ = some (.int .u32 v1) ∧ V.cell? ⟨bx, 16, none⟩ = some (.int .u32 x.a) ∧ Hid (Chg [] W V)) [(0, true, some 34), (1, true, some 35), (2, true, some 36), (3, true, some 37), (4, true, some 38), (5, true, some 39), (6, true, some 40), (7, true, some 41), (8, true, some 4)] (by kernel_rfl) (by kernel_rfl) (by kernel_rfl) (by kernel_rfl) (fun d c a v w h => by cases d <;> exact h) hHeld ?_
      repeat (first
        | (refine planWp_read (v := ?_) rfl rfl ?_ ?_ ?_; rotate_left; (focus rfl); (focus (intro u hSw; (try dsimp only at hSw); go_simp; (try with_reducible rfl))); (try simp only [Act.put, List.setIfInBounds_toArray, List.set_cons_zero, List.set_cons_succ]))
        | (refine planWp_skip rfl rfl ?_ ?_; (focus rfl); (try simp only [Act.put, List.setIfInBounds_toArray, List.set_cons_zero, List.set_cons_succ]))
        | (refine planWp_leave rfl rfl ?_ hHeld ?_; (focus rfl); (try simp only [Act.put, List.setIfInBounds_toArray, List.set_cons_zero, List.set_cons_succ]))
        | (refine planWp_do rfl rfl ?_ (fun K hK => ?_); (focus rfl); go_simp; (try go_wp2_with fail); refine hK.out _ _ ?_ (fun hHeld2 => ?_); (focus (exact KEEP.out _ (Chg.trans hHeld.2.2.out HCX.out))); clear hK K hHeld; have hHeld := hHeld2; clear hHeld2; (try simp only [Act.put, List.setIfInBounds_toArray, List.set_cons_zero, List.set_cons_succ])))
      refine planWp_nil ?_
      have HBC : Hid (Blk W.drew bx ({ x with row := 2 } : ROp).cells 45) := Lib.hid (HB.out.keep hHeld.2.2.out (by simp))
      clear hHeld KEEP
      go_wp2_with (go_at_call 73; refine (fail_lit bx ({ x with row := 2 } : ROp) _ HF.out HT.out _ HBC.out).mono ?_; rintro e W6 ⟨rfl, hr6, hc6⟩; have HR6 := Lib.hid hr6; have HC6 := Lib.hid hc6; clear hr6 hc6)
      go_end0
      exact ⟨rfl, by rw [HP.out]; exact HR6.out, LT.keep (LT.drew HL.out) HC6.out (by simp; exact hne1b), ((Chg.refl [] W).drew.mono (by simp)).trans HC6.out⟩
end Go.Proofs.Ytjplamoofkcojaa.ref
