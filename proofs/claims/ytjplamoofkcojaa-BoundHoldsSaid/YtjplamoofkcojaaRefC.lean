/- The reference's operation: the rows of the kind whose readers mark their slots. -/
import Derived.Test.YtjplamoofkcojaaRefU
namespace Go.Proofs.Ytjplamoofkcojaa.ref
open Go Go.RowKit Go.Proofs.Ytjplamoofkcojaa.kit Go.Proofs.Ytjplamoofkcojaa.obj Go.Proofs.Ytjplamoofkcojaa.rop
set_option linter.unusedVariables false
set_option linter.unusedSimpArgs false
set_option maxRecDepth 20000
variable {tn : Nat}
theorem fail_litC (bx : Nat) (x : ROp) (b : Bool) (hb : decide (x.c ≤ x.tries + 1) = b) (ht : 0 ≤ x.tries ∧ x.tries ≤ 1000000) (W : World) (h : RAt W bx x) :
    Calls Try.prog 73 #[.pointer (some ⟨bx, 0, none⟩)] W fun e W' => e = .returned (.bool b) ∧ RAt W' bx { x with tries := x.tries + 1, rcd := .slice none 0 0, row := 0, i := 0 } ∧ Chg [bx] W W' :=
  (fail_core bx x W h ht).mono (by rintro e w ⟨rfl, h1, h2⟩; exact ⟨by rw [hb], h1, h2⟩)
set_option maxHeartbeats 8000000 in
theorem cabW_0 (bx g o m cp : Nat) (x : ROp) (ws : List Int) (W : World) (h : RAt W bx ({ x with row := 0 } : ROp)) (hl : LT tn W g ws) (hwf : ∀ z ∈ ws, 0 ≤ z ∧ z ≤ 4294967295) (hm : 1 ≤ m) (hmc : m ≤ cp) (hom : o + m ≤ ws.length) (hne1 : bx ≠ g) (hs : 1 ≤ x.s ∧ x.s ≤ 16) (hrl : x.rl ≤ 100) (hn : recordsI x.k x.s x.rl ≤ 16) :
    Calls Try.prog 46 #[.pointer (some ⟨bx, 0, none⟩), .slice (some ⟨g, o, none⟩) m cp] W fun e W' => e = .returned (.tuple #[]) ∧ RAt W' bx ({ ({ x with row := 0 } : ROp) with u := noteU (recordsI x.k x.s x.rl) x.u (ws.getD (o + 0) 0 % x.s), row := 1, i := 0 }) ∧ LT tn W' g (ws) ∧ Chg [bx] W W' := by
  have HB : Hid (Blk W bx ({ x with row := 0 } : ROp).cells 45) := Lib.hid h
  have HL := Lib.hid hl
  have hm00 : 0 < m := by omega
  have hm00I : (0 : Int) < (m : Int) := by omega
  have hne1b : ¬ g = bx := fun hh => hne1 hh.symm
  have hjv0 : o + 0 < ws.length := by omega
  have cv0 : W.cell? ⟨g, o, none⟩ = some (.int .u32 (ws.getD (o + 0) 0)) := LT.word HL.out (o + 0) hjv0
  have bv0 : 0 ≤ ws.getD (o + 0) 0 ∧ ws.getD (o + 0) 0 ≤ 4294967295 := hwf _ (by rw [List.getD_eq_getElem?_getD, List.getElem?_eq_getElem hjv0]; exact List.getElem_mem hjv0)
  generalize ws.getD (o + 0) 0 = v0 at *
  have e11 : W.cell? ⟨bx, 11, none⟩ = some (.int .i64 0) := HB.out.cell rfl
  have e2 : W.cell? ⟨bx, 2, none⟩ = some (.int .i64 x.s) := HB.out.cell rfl
  have k1 : IntKind.u32.wrap x.s = x.s := by rw [IntKind.wrap_u32]; omega
  have hs0 : x.s ≠ 0 := by omega
  have hs1 : (x.s == 0) = false := by simp; omega
  have kt : Int.tmod v0 x.s = v0 % x.s := Int.tmod_eq_emod_of_nonneg bv0.1
  have q1 := Int.emod_lt_of_pos v0 (show 0 < x.s by omega)
  have q2 := Int.emod_nonneg v0 hs0
  obtain ⟨q, hq⟩ : ∃ q, v0 % x.s = q := ⟨_, rfl⟩
  rw [hq] at kt q1 q2 ⊢
  have kw : IntKind.u32.wrap q = q := by rw [IntKind.wrap_u32]; omega
  have HNOTE := Lib.hid (fun (V : World) (hV : Chg [] W V) => note_any bx ({ x with row := 0 } : ROp) q V (Blk.keep HB.out hV (by simp)) ⟨by omega, by omega⟩ hrl hn)
  clear h hl hwf hom hjv0 hq hrl hn
  go_enter Try.func46, Try.ntmps46
  go_wp2_with fail
  have eS0 : W.cell? ⟨g, o, none⟩ = some (.int .u32 v0) := cv0
  have eS1 : W.cell? ⟨bx, 2, none⟩ = some (.int .i64 x.s) := e2
  have KEEP := Lib.hid (fun (V : World) (h : Chg [] W V) => (⟨h.keep eS0 (by simp), h.keep eS1 (by simp), Lib.hid h⟩ : (fun V : World => V.cell? ⟨g, o, none⟩ = some (.int .u32 v0) ∧ V.cell? ⟨bx, 2, none⟩ = some (.int .i64 x.s) ∧ Hid (Chg [] W V)) V))
  clear eS0 eS1 cv0 e2 e11
  have hHeld : (fun V : World => V.cell? ⟨g, o, none⟩ = some (.int .u32 v0) ∧ V.cell? ⟨bx, 2, none⟩ = some (.int .i64 x.s) ∧ Hid (Chg [] W V)) W.drew := KEEP.out _ (Chg.refl _ _).drew
  refine wp_region_planT (fun V : World => V.cell? ⟨g, o, none⟩ = some (.int .u32 v0) ∧ V.cell? ⟨bx, 2, none⟩ = some (.int .i64 x.s) ∧ Hid (Chg [] W V)) 11 [(0, true, some 10), (1, true, some 11), (2, true, some 12), (3, true, some 13), (4, true, some 14), (5, true, some 15), (6, true, some 16), (7, true, some 17), (8, true, some 18), (9, true, some 19), (10, true, some 20)] (by kernel_rfl) (by kernel_rfl) (by kernel_rfl) (by kernel_rfl) (by kernel_rfl) (fun d c a v w h => by cases d <;> exact h) hHeld ?_
  repeat (refine planT_read (v := ?_) rfl rfl ?_ ?_ ?_; rotate_left; (focus rfl); (focus (intro u hSw; (try dsimp only at hSw); go_simp; (try with_reducible rfl))); (try simp only [Act.put, List.setIfInBounds_toArray, List.set_cons_zero, List.set_cons_succ]))
  refine planT_last rfl ?_ (fun K hK => ?_)
  · rfl
  go_simp
  refine (HNOTE.out _ (Chg.refl _ _).drew).mono ?_
  rintro e W6 ⟨rfl, hr6, hc6⟩
  refine hK.out _ _ ?_
  have HR6 := Lib.hid hr6
  have HC6 := Lib.hid hc6
  clear hr6 hc6 hK K hHeld KEEP
  go_wp2_with (go_at_call 68; refine (to_any bx _ 1 _ HR6.out).mono ?_; rintro e W7 ⟨rfl, hr7, hc7⟩; have HR7 := Lib.hid hr7; have HC7 := Lib.hid hc7; clear hr7 hc7)
  (first | go_end0 | refine bodyPost_ret (results_none rfl _ _ _) rfl ?_)
  exact ⟨rfl, HR7.out, LT.keep (LT.keep (LT.drew HL.out) HC6.out (by simp; exact hne1b)) HC7.out (by simp; exact hne1b), ((Chg.refl [bx] W).drew.trans HC6.out).trans HC7.out⟩
set_option maxHeartbeats 16000000 in
theorem cabW_1a (bx g o m cp iN : Nat) (x : ROp) (ws : List Int) (W : World) (h : RAt W bx ({ x with row := 1, i := (iN : Int) } : ROp)) (hl : LT tn W g ws) (hwf : ∀ z ∈ ws, 0 ≤ z ∧ z ≤ 4294967295) (hm : 1 + iN < m) (hmc : m ≤ cp) (hom : o + m ≤ ws.length) (hne1 : bx ≠ g) (hi : iN ≤ 100) (hrl : x.rl ≤ 100) (hn : recordsI x.k x.s x.rl ≤ 16) (hrl1 : iN + 1 ≠ x.rl) :
    Calls Try.prog 46 #[.pointer (some ⟨bx, 0, none⟩), .slice (some ⟨g, o, none⟩) m cp] W fun e W' => e = .returned (.tuple #[]) ∧ RAt W' bx ({ ({ x with row := 1, i := (iN : Int) } : ROp) with u := (if 0 < ws.getD (o + (1 + iN)) 0 then noteU (recordsI x.k x.s x.rl) x.u (ws.getD (o + (1 + iN)) 0 - 1) else x.u), i := (iN : Int) + 1 } : ROp) ∧ LT tn W' g (ws) ∧ Chg [bx] W W' := by
  have HB : Hid (Blk W bx ({ x with row := 1, i := (iN : Int) } : ROp).cells 45) := Lib.hid h
  have HL := Lib.hid hl
  have hm00 : 0 < m := by omega
  have hm00I : (0 : Int) < (m : Int) := by omega
  have hne1b : ¬ g = bx := fun hh => hne1 hh.symm
  have hjv0 : o + (1 + iN) < ws.length := by omega
  have cv0 : W.cell? ⟨g, o + (1 + iN), none⟩ = some (.int .u32 (ws.getD (o + (1 + iN)) 0)) := LT.word HL.out (o + (1 + iN)) hjv0
  have bv0 : 0 ≤ ws.getD (o + (1 + iN)) 0 ∧ ws.getD (o + (1 + iN)) 0 ≤ 4294967295 := hwf _ (by rw [List.getD_eq_getElem?_getD, List.getElem?_eq_getElem hjv0]; exact List.getElem_mem hjv0)
  generalize ws.getD (o + (1 + iN)) 0 = v0 at *
  have kr : IntKind.i64.wrap (1 + (iN : Int)) = ((1 + iN : Nat) : Int) := by rw [IntKind.wrap_i64]; omega
  have hr2 : ((1 + iN : Nat) : Int) < (m : Int) := by omega
  have hr3 : (1 : Int) + (iN : Int) < (m : Int) := by omega
  have ki : IntKind.i64.wrap ((iN : Int) + 1) = (iN : Int) + 1 := by rw [IntKind.wrap_i64]; omega
  have hlb : ((iN : Int) + 1 == (x.rl : Int)) = false := by simp; omega
  have f12 : W.frozen? ⟨bx, 12, none⟩ = false := HB.out.free 12
  by_cases hv : 0 < v0
  · skip
    have hvb : decide (0 < v0) = true := by simpa using hv
    have kv : IntKind.u32.wrap (v0 - 1) = v0 - 1 := by rw [IntKind.wrap_u32]; omega
    have HNOTE := Lib.hid (fun (V : World) (hV : Chg [] W V) => note_any bx ({ x with row := 1, i := (iN : Int) } : ROp) (v0 - 1) V (Blk.keep HB.out hV (by simp)) ⟨by omega, by omega⟩ hrl hn)
    have HU : Hid ((if 0 < v0 then noteU (recordsI x.k x.s x.rl) x.u (v0 - 1) else x.u) = noteU (recordsI x.k x.s x.rl) x.u (v0 - 1)) := Lib.hid (if_pos hv)
    rw [HU.out]
    obtain ⟨U, hU⟩ : ∃ U, noteU (recordsI x.k x.s x.rl) x.u (v0 - 1) = U := ⟨_, rfl⟩
    have HNOTE2 : Hid (∀ V, Chg [] W V → Calls Try.prog 71 #[.pointer (some ⟨bx, 0, none⟩), .int .u32 (v0 - 1)] V fun e W' => e = .returned (.tuple #[]) ∧ RAt W' bx ({ ({ x with row := 1, i := (iN : Int) } : ROp) with u := U } : ROp) ∧ Chg [bx] V W') := Lib.hid (fun V hV => by rw [← hU]; exact HNOTE.out V hV)
    clear HNOTE
    rw [hU]
    clear h hl hwf hom hjv0 hrl hn hm hrl1 hi hU hv HU
    have e11 : W.cell? ⟨bx, 11, none⟩ = some (.int .i64 1) := HB.out.cell rfl
    have e12 : W.cell? ⟨bx, 12, none⟩ = some (.int .i64 (iN : Int)) := HB.out.cell rfl
    go_enter Try.func46, Try.ntmps46
    go_wp2_with (go_at_call 71; refine (HNOTE2.out _ (Chg.refl _ _)).mono ?_; rintro e W6 ⟨rfl, hr6, hc6⟩; have HR6 := Lib.hid hr6; have HC6 := Lib.hid hc6; have e12 : W6.cell? ⟨bx, 12, none⟩ = some (.int .i64 (iN : Int)) := HR6.out.cell rfl; have f12 := HR6.out.free 12; clear hr6 hc6)
    have HB8 : Hid (Blk (W6.setCell ⟨bx, 12, none⟩ (.int .i64 ((iN : Int) + 1))) bx ({ ({ x with row := 1, i := (iN : Int) } : ROp) with u := U, i := (iN : Int) + 1 } : ROp).cells 45) := Lib.hid (HR6.out.set 12 (.int .i64 ((iN : Int) + 1)))
    have HC8 : Hid (Chg [bx] W (W6.setCell ⟨bx, 12, none⟩ (.int .i64 ((iN : Int) + 1)))) := Lib.hid (HC6.out.setCell (.inl (by simp)) _)
    refine code_gen (R := fun V => Hid (Blk V bx ({ ({ x with row := 1, i := (iN : Int) } : ROp) with u := U, i := (iN : Int) + 1 } : ROp).cells 45) ∧ Hid (Chg [bx] W V)) ⟨HB8, HC8⟩ ?_
    clear HB8 HC8 e11 e12 f12 HR6 HC6
    rintro W3 ⟨HB8, HC8⟩
    have e12 : W3.cell? ⟨bx, 12, none⟩ = some (.int .i64 ((iN : Int) + 1)) := HB8.out.cell rfl
    have e7 : W3.cell? ⟨bx, 7, none⟩ = some (.slice x.ra x.rl x.rc) := HB8.out.cell rfl
    have eS0 : W3.cell? ⟨bx, 12, none⟩ = some (.int .i64 ((iN : Int) + 1)) := e12
    have eS1 : W3.cell? ⟨bx, 7, none⟩ = some (.slice x.ra x.rl x.rc) := e7
    have KEEP := Lib.hid (fun (V : World) (h : Chg [] W3 V) => (⟨h.keep eS0 (by simp), h.keep eS1 (by simp), Lib.hid h⟩ : (fun V : World => V.cell? ⟨bx, 12, none⟩ = some (.int .i64 ((iN : Int) + 1)) ∧ V.cell? ⟨bx, 7, none⟩ = some (.slice x.ra x.rl x.rc) ∧ Hid (Chg [] W3 V)) V))
    clear eS0 eS1 e12 e7
    have hHeld : (fun V : World => V.cell? ⟨bx, 12, none⟩ = some (.int .i64 ((iN : Int) + 1)) ∧ V.cell? ⟨bx, 7, none⟩ = some (.slice x.ra x.rl x.rc) ∧ Hid (Chg [] W3 V)) (World.drew W3) := KEEP.out _ (Chg.refl _ _).drew
    refine wp_region_plan (fun V : World => V.cell? ⟨bx, 12, none⟩ = some (.int .i64 ((iN : Int) + 1)) ∧ V.cell? ⟨bx, 7, none⟩ = some (.slice x.ra x.rl x.rc) ∧ Hid (Chg [] W3 V)) [(0, true, some 53), (1, true, some 54), (2, true, some 55), (3, true, some 56), (4, true, some 57), (5, true, some 58), (6, true, some 59), (7, true, some 60), (8, true, some 61), (9, true, some 62), (10, true, some 63)] (by kernel_rfl) (by kernel_rfl) (by kernel_rfl) (by kernel_rfl) (fun d c a v w h => by cases d <;> exact h) hHeld ?_
    repeat (first
      | (refine planWp_read (v := ?_) rfl rfl ?_ ?_ ?_; rotate_left; (focus rfl); (focus (intro u hSw; (try dsimp only at hSw); go_simp; (try with_reducible rfl))); (try simp only [Act.put, List.setIfInBounds_toArray, List.set_cons_zero, List.set_cons_succ]))
      | (refine planWp_skip rfl rfl ?_ ?_; (focus rfl); (try simp only [Act.put, List.setIfInBounds_toArray, List.set_cons_zero, List.set_cons_succ]))
      | (refine planWp_leave rfl rfl ?_ hHeld ?_; (focus rfl); (try simp only [Act.put, List.setIfInBounds_toArray, List.set_cons_zero, List.set_cons_succ]))
      | (refine planWp_do rfl rfl ?_ (fun K hK => ?_); (focus rfl); go_simp; (try go_wp2_with fail); refine hK.out _ _ ?_ (fun hHeld2 => ?_); (focus (exact KEEP.out _ (Chg.trans hHeld.2.2.out HCX.out))); clear hK K hHeld; have hHeld := hHeld2; clear hHeld2; (try simp only [Act.put, List.setIfInBounds_toArray, List.set_cons_zero, List.set_cons_succ])))
    refine planWp_nil ?_
    have HR9 := Lib.hid hHeld.2.2.out
    clear hHeld KEEP
    refine then_gen (R := fun V => Hid (Chg [] W3 V)) HR9 ?_
    clear HR9
    rintro W4 HR9
    have HB9 : Hid (Blk W4 bx ({ ({ x with row := 1, i := (iN : Int) } : ROp) with u := U, i := (iN : Int) + 1 } : ROp).cells 45) := Lib.hid (HB8.out.keep HR9.out (by simp))
    have HC9 : Hid (Chg [bx] W W4) := Lib.hid (HC8.out.fresh HR9.out)
    clear HB8 HC8 HR9
    go_wp2_with fail
    all_goals (first | go_end0 | refine bodyPost_ret (results_none rfl _ _ _) rfl ?_)
    all_goals exact ⟨rfl, HB9.out, LT.keep HL.out HC9.out (by simp; exact hne1b), HC9.out⟩
  · skip
    have hvb : decide (0 < v0) = false := by simpa using hv
    have HU : Hid ((if 0 < v0 then noteU (recordsI x.k x.s x.rl) x.u (v0 - 1) else x.u) = x.u) := Lib.hid (if_neg hv)
    rw [HU.out]
    clear h hl hwf hom hjv0 hrl hn hm hrl1 hi hv HU
    have e11 : W.cell? ⟨bx, 11, none⟩ = some (.int .i64 1) := HB.out.cell rfl
    have e12 : W.cell? ⟨bx, 12, none⟩ = some (.int .i64 (iN : Int)) := HB.out.cell rfl
    go_enter Try.func46, Try.ntmps46
    go_wp2_with fail
    have HB8 : Hid (Blk (W.setCell ⟨bx, 12, none⟩ (.int .i64 ((iN : Int) + 1))) bx ({ ({ x with row := 1, i := (iN : Int) } : ROp) with u := x.u, i := (iN : Int) + 1 } : ROp).cells 45) := Lib.hid (HB.out.set 12 (.int .i64 ((iN : Int) + 1)))
    have HC8 : Hid (Chg [bx] W (W.setCell ⟨bx, 12, none⟩ (.int .i64 ((iN : Int) + 1)))) := Lib.hid ((Chg.refl [bx] W).setCell (.inl (by simp)) _)
    refine code_gen (R := fun V => Hid (Blk V bx ({ ({ x with row := 1, i := (iN : Int) } : ROp) with u := x.u, i := (iN : Int) + 1 } : ROp).cells 45) ∧ Hid (Chg [bx] W V)) ⟨HB8, HC8⟩ ?_
    clear HB8 HC8 e11 e12 f12
    rintro W3 ⟨HB8, HC8⟩
    have e12 : W3.cell? ⟨bx, 12, none⟩ = some (.int .i64 ((iN : Int) + 1)) := HB8.out.cell rfl
    have e7 : W3.cell? ⟨bx, 7, none⟩ = some (.slice x.ra x.rl x.rc) := HB8.out.cell rfl
    have eS0 : W3.cell? ⟨bx, 12, none⟩ = some (.int .i64 ((iN : Int) + 1)) := e12
    have eS1 : W3.cell? ⟨bx, 7, none⟩ = some (.slice x.ra x.rl x.rc) := e7
    have KEEP := Lib.hid (fun (V : World) (h : Chg [] W3 V) => (⟨h.keep eS0 (by simp), h.keep eS1 (by simp), Lib.hid h⟩ : (fun V : World => V.cell? ⟨bx, 12, none⟩ = some (.int .i64 ((iN : Int) + 1)) ∧ V.cell? ⟨bx, 7, none⟩ = some (.slice x.ra x.rl x.rc) ∧ Hid (Chg [] W3 V)) V))
    clear eS0 eS1 e12 e7
    have hHeld : (fun V : World => V.cell? ⟨bx, 12, none⟩ = some (.int .i64 ((iN : Int) + 1)) ∧ V.cell? ⟨bx, 7, none⟩ = some (.slice x.ra x.rl x.rc) ∧ Hid (Chg [] W3 V)) (World.drew W3) := KEEP.out _ (Chg.refl _ _).drew
    refine wp_region_plan (fun V : World => V.cell? ⟨bx, 12, none⟩ = some (.int .i64 ((iN : Int) + 1)) ∧ V.cell? ⟨bx, 7, none⟩ = some (.slice x.ra x.rl x.rc) ∧ Hid (Chg [] W3 V)) [(0, true, some 53), (1, true, some 54), (2, true, some 55), (3, true, some 56), (4, true, some 57), (5, true, some 58), (6, true, some 59), (7, true, some 60), (8, true, some 61), (9, true, some 62), (10, true, some 63)] (by kernel_rfl) (by kernel_rfl) (by kernel_rfl) (by kernel_rfl) (fun d c a v w h => by cases d <;> exact h) hHeld ?_
    repeat (first
      | (refine planWp_read (v := ?_) rfl rfl ?_ ?_ ?_; rotate_left; (focus rfl); (focus (intro u hSw; (try dsimp only at hSw); go_simp; (try with_reducible rfl))); (try simp only [Act.put, List.setIfInBounds_toArray, List.set_cons_zero, List.set_cons_succ]))
      | (refine planWp_skip rfl rfl ?_ ?_; (focus rfl); (try simp only [Act.put, List.setIfInBounds_toArray, List.set_cons_zero, List.set_cons_succ]))
      | (refine planWp_leave rfl rfl ?_ hHeld ?_; (focus rfl); (try simp only [Act.put, List.setIfInBounds_toArray, List.set_cons_zero, List.set_cons_succ]))
      | (refine planWp_do rfl rfl ?_ (fun K hK => ?_); (focus rfl); go_simp; (try go_wp2_with fail); refine hK.out _ _ ?_ (fun hHeld2 => ?_); (focus (exact KEEP.out _ (Chg.trans hHeld.2.2.out HCX.out))); clear hK K hHeld; have hHeld := hHeld2; clear hHeld2; (try simp only [Act.put, List.setIfInBounds_toArray, List.set_cons_zero, List.set_cons_succ])))
    refine planWp_nil ?_
    have HR9 := Lib.hid hHeld.2.2.out
    clear hHeld KEEP
    refine then_gen (R := fun V => Hid (Chg [] W3 V)) HR9 ?_
    clear HR9
    rintro W4 HR9
    have HB9 : Hid (Blk W4 bx ({ ({ x with row := 1, i := (iN : Int) } : ROp) with u := x.u, i := (iN : Int) + 1 } : ROp).cells 45) := Lib.hid (HB8.out.keep HR9.out (by simp))
    have HC9 : Hid (Chg [bx] W W4) := Lib.hid (HC8.out.fresh HR9.out)
    clear HB8 HC8 HR9
    go_wp2_with fail
    all_goals (first | go_end0 | refine bodyPost_ret (results_none rfl _ _ _) rfl ?_)
    all_goals exact ⟨rfl, HB9.out, LT.keep HL.out HC9.out (by simp; exact hne1b), HC9.out⟩
set_option maxHeartbeats 16000000 in
theorem cabW_1b (bx g o m cp iN : Nat) (x : ROp) (ws : List Int) (W : World) (h : RAt W bx ({ x with row := 1, i := (iN : Int) } : ROp)) (hl : LT tn W g ws) (hwf : ∀ z ∈ ws, 0 ≤ z ∧ z ≤ 4294967295) (hm : 1 + iN < m) (hmc : m ≤ cp) (hom : o + m ≤ ws.length) (hne1 : bx ≠ g) (hi : iN ≤ 100) (hrl : x.rl ≤ 100) (hn : recordsI x.k x.s x.rl ≤ 16) (hrl1 : iN + 1 = x.rl) (f : Nat) (hf : f < 20) (hff : (if 0 < ws.getD (o + (1 + iN)) 0 then noteU (recordsI x.k x.s x.rl) x.u (ws.getD (o + (1 + iN)) 0 - 1) else x.u) f = false) (hfl : ∀ j, j < f → (if 0 < ws.getD (o + (1 + iN)) 0 then noteU (recordsI x.k x.s x.rl) x.u (ws.getD (o + (1 + iN)) 0 - 1) else x.u) j = true) :
    Calls Try.prog 46 #[.pointer (some ⟨bx, 0, none⟩), .slice (some ⟨g, o, none⟩) m cp] W fun e W' => e = .returned (.tuple #[]) ∧ RAt W' bx ({ ({ x with row := 1, i := (iN : Int) } : ROp) with u := (if 0 < ws.getD (o + (1 + iN)) 0 then noteU (recordsI x.k x.s x.rl) x.u (ws.getD (o + (1 + iN)) 0 - 1) else x.u), b := (f : Int), row := 2, i := 0 } : ROp) ∧ LT tn W' g (ws) ∧ Chg [bx] W W' := by
  have HB : Hid (Blk W bx ({ x with row := 1, i := (iN : Int) } : ROp).cells 45) := Lib.hid h
  have HL := Lib.hid hl
  have hm00 : 0 < m := by omega
  have hm00I : (0 : Int) < (m : Int) := by omega
  have hne1b : ¬ g = bx := fun hh => hne1 hh.symm
  have hjv0 : o + (1 + iN) < ws.length := by omega
  have cv0 : W.cell? ⟨g, o + (1 + iN), none⟩ = some (.int .u32 (ws.getD (o + (1 + iN)) 0)) := LT.word HL.out (o + (1 + iN)) hjv0
  have bv0 : 0 ≤ ws.getD (o + (1 + iN)) 0 ∧ ws.getD (o + (1 + iN)) 0 ≤ 4294967295 := hwf _ (by rw [List.getD_eq_getElem?_getD, List.getElem?_eq_getElem hjv0]; exact List.getElem_mem hjv0)
  generalize ws.getD (o + (1 + iN)) 0 = v0 at *
  have kr : IntKind.i64.wrap (1 + (iN : Int)) = ((1 + iN : Nat) : Int) := by rw [IntKind.wrap_i64]; omega
  have hr2 : ((1 + iN : Nat) : Int) < (m : Int) := by omega
  have hr3 : (1 : Int) + (iN : Int) < (m : Int) := by omega
  have ki : IntKind.i64.wrap ((iN : Int) + 1) = (iN : Int) + 1 := by rw [IntKind.wrap_i64]; omega
  have hlb : ((iN : Int) + 1 == (x.rl : Int)) = true := by simp; omega
  have f12 : W.frozen? ⟨bx, 12, none⟩ = false := HB.out.free 12
  have HF := Lib.hid (show f < 20 from hf)
  by_cases hv : 0 < v0
  · skip
    have hvb : decide (0 < v0) = true := by simpa using hv
    have kv : IntKind.u32.wrap (v0 - 1) = v0 - 1 := by rw [IntKind.wrap_u32]; omega
    have HNOTE := Lib.hid (fun (V : World) (hV : Chg [] W V) => note_any bx ({ x with row := 1, i := (iN : Int) } : ROp) (v0 - 1) V (Blk.keep HB.out hV (by simp)) ⟨by omega, by omega⟩ hrl hn)
    have HU : Hid ((if 0 < v0 then noteU (recordsI x.k x.s x.rl) x.u (v0 - 1) else x.u) = noteU (recordsI x.k x.s x.rl) x.u (v0 - 1)) := Lib.hid (if_pos hv)
    rw [HU.out]
    rw [HU.out] at hff
    have HFL : Hid (∀ j, j < f → noteU (recordsI x.k x.s x.rl) x.u (v0 - 1) j = true) := Lib.hid (fun j hj => by rw [← HU.out]; exact hfl j hj)
    have HFF := Lib.hid hff
    obtain ⟨U, hU⟩ : ∃ U, noteU (recordsI x.k x.s x.rl) x.u (v0 - 1) = U := ⟨_, rfl⟩
    have HNOTE2 : Hid (∀ V, Chg [] W V → Calls Try.prog 71 #[.pointer (some ⟨bx, 0, none⟩), .int .u32 (v0 - 1)] V fun e W' => e = .returned (.tuple #[]) ∧ RAt W' bx ({ ({ x with row := 1, i := (iN : Int) } : ROp) with u := U } : ROp) ∧ Chg [bx] V W') := Lib.hid (fun V hV => by rw [← hU]; exact HNOTE.out V hV)
    clear HNOTE
    rw [hU] at HFL HFF
    rw [hU]
    clear h hl hwf hom hjv0 hrl hn hm hrl1 hi hU hv HU hff hfl hf
    have e11 : W.cell? ⟨bx, 11, none⟩ = some (.int .i64 1) := HB.out.cell rfl
    have e12 : W.cell? ⟨bx, 12, none⟩ = some (.int .i64 (iN : Int)) := HB.out.cell rfl
    go_enter Try.func46, Try.ntmps46
    go_wp2_with (go_at_call 71; refine (HNOTE2.out _ (Chg.refl _ _)).mono ?_; rintro e W6 ⟨rfl, hr6, hc6⟩; have HR6 := Lib.hid hr6; have HC6 := Lib.hid hc6; have e12 : W6.cell? ⟨bx, 12, none⟩ = some (.int .i64 (iN : Int)) := HR6.out.cell rfl; have f12 := HR6.out.free 12; clear hr6 hc6)
    have HB8 : Hid (Blk (W6.setCell ⟨bx, 12, none⟩ (.int .i64 ((iN : Int) + 1))) bx ({ ({ x with row := 1, i := (iN : Int) } : ROp) with u := U, i := (iN : Int) + 1 } : ROp).cells 45) := Lib.hid (HR6.out.set 12 (.int .i64 ((iN : Int) + 1)))
    have HC8 : Hid (Chg [bx] W (W6.setCell ⟨bx, 12, none⟩ (.int .i64 ((iN : Int) + 1)))) := Lib.hid (HC6.out.setCell (.inl (by simp)) _)
    refine code_gen (R := fun V => Hid (Blk V bx ({ ({ x with row := 1, i := (iN : Int) } : ROp) with u := U, i := (iN : Int) + 1 } : ROp).cells 45) ∧ Hid (Chg [bx] W V)) ⟨HB8, HC8⟩ ?_
    clear HB8 HC8 e11 e12 f12 HR6 HC6
    rintro W3 ⟨HB8, HC8⟩
    have e12 : W3.cell? ⟨bx, 12, none⟩ = some (.int .i64 ((iN : Int) + 1)) := HB8.out.cell rfl
    have e7 : W3.cell? ⟨bx, 7, none⟩ = some (.slice x.ra x.rl x.rc) := HB8.out.cell rfl
    have eS0 : W3.cell? ⟨bx, 12, none⟩ = some (.int .i64 ((iN : Int) + 1)) := e12
    have eS1 : W3.cell? ⟨bx, 7, none⟩ = some (.slice x.ra x.rl x.rc) := e7
    have KEEP := Lib.hid (fun (V : World) (h : Chg [] W3 V) => (⟨h.keep eS0 (by simp), h.keep eS1 (by simp), Lib.hid h⟩ : (fun V : World => V.cell? ⟨bx, 12, none⟩ = some (.int .i64 ((iN : Int) + 1)) ∧ V.cell? ⟨bx, 7, none⟩ = some (.slice x.ra x.rl x.rc) ∧ Hid (Chg [] W3 V)) V))
    clear eS0 eS1 e12 e7
    have hHeld : (fun V : World => V.cell? ⟨bx, 12, none⟩ = some (.int .i64 ((iN : Int) + 1)) ∧ V.cell? ⟨bx, 7, none⟩ = some (.slice x.ra x.rl x.rc) ∧ Hid (Chg [] W3 V)) (World.drew W3) := KEEP.out _ (Chg.refl _ _).drew
    refine wp_region_plan (fun V : World => V.cell? ⟨bx, 12, none⟩ = some (.int .i64 ((iN : Int) + 1)) ∧ V.cell? ⟨bx, 7, none⟩ = some (.slice x.ra x.rl x.rc) ∧ Hid (Chg [] W3 V)) [(0, true, some 53), (1, true, some 54), (2, true, some 55), (3, true, some 56), (4, true, some 57), (5, true, some 58), (6, true, some 59), (7, true, some 60), (8, true, some 61), (9, true, some 62), (10, true, some 63)] (by kernel_rfl) (by kernel_rfl) (by kernel_rfl) (by kernel_rfl) (fun d c a v w h => by cases d <;> exact h) hHeld ?_
    repeat (first
      | (refine planWp_read (v := ?_) rfl rfl ?_ ?_ ?_; rotate_left; (focus rfl); (focus (intro u hSw; (try dsimp only at hSw); go_simp; (try with_reducible rfl))); (try simp only [Act.put, List.setIfInBounds_toArray, List.set_cons_zero, List.set_cons_succ]))
      | (refine planWp_skip rfl rfl ?_ ?_; (focus rfl); (try simp only [Act.put, List.setIfInBounds_toArray, List.set_cons_zero, List.set_cons_succ]))
      | (refine planWp_leave rfl rfl ?_ hHeld ?_; (focus rfl); (try simp only [Act.put, List.setIfInBounds_toArray, List.set_cons_zero, List.set_cons_succ]))
      | (refine planWp_do rfl rfl ?_ (fun K hK => ?_); (focus rfl); go_simp; (try go_wp2_with fail); refine hK.out _ _ ?_ (fun hHeld2 => ?_); (focus (exact KEEP.out _ (Chg.trans hHeld.2.2.out HCX.out))); clear hK K hHeld; have hHeld := hHeld2; clear hHeld2; (try simp only [Act.put, List.setIfInBounds_toArray, List.set_cons_zero, List.set_cons_succ])))
    refine planWp_nil ?_
    have HR9 := Lib.hid hHeld.2.2.out
    clear hHeld KEEP
    refine then_gen (R := fun V => Hid (Chg [] W3 V)) HR9 ?_
    clear HR9
    rintro W4 HR9
    have HB9 : Hid (Blk W4 bx ({ ({ x with row := 1, i := (iN : Int) } : ROp) with u := U, i := (iN : Int) + 1 } : ROp).cells 45) := Lib.hid (HB8.out.keep HR9.out (by simp))
    have HC9 : Hid (Chg [bx] W W4) := Lib.hid (HC8.out.fresh HR9.out)
    clear HB8 HC8 HR9
    have e17 : W4.cell? ⟨bx, 17, none⟩ = some (.int .u32 x.b) := HB9.out.cell rfl
    have f17 := HB9.out.free 17
    go_wp2_with (first | (go_at_call 72; refine (choose_any bx ({ ({ x with row := 1, i := (iN : Int) } : ROp) with u := U, i := (iN : Int) + 1 } : ROp) f _ HB9.out HF.out HFF.out HFL.out).mono ?_; rintro e w ⟨rfl, rfl⟩) | (go_at_call 68; refine (to_any bx ({ ({ x with row := 1, i := (iN : Int) } : ROp) with u := U, b := (f : Int), i := (iN : Int) + 1 } : ROp) 2 _ (HB9.out.set 17 (.int .u32 (f : Int)))).mono ?_; rintro e W7 ⟨rfl, hr7, hc7⟩; have HR7 := Lib.hid hr7; have HC7 := Lib.hid hc7; clear hr7 hc7))
    all_goals (first | go_end0 | refine bodyPost_ret (results_none rfl _ _ _) rfl ?_)
    all_goals exact ⟨rfl, HR7.out, LT.keep HL.out ((HC9.out.setCell (.inl (by simp)) _).trans HC7.out) (by simp; exact hne1b), (HC9.out.setCell (.inl (by simp)) _).trans HC7.out⟩
  · skip
    have hvb : decide (0 < v0) = false := by simpa using hv
    have HU : Hid ((if 0 < v0 then noteU (recordsI x.k x.s x.rl) x.u (v0 - 1) else x.u) = x.u) := Lib.hid (if_neg hv)
    rw [HU.out]
    rw [HU.out] at hff
    have HFL : Hid (∀ j, j < f → x.u j = true) := Lib.hid (fun j hj => by rw [← HU.out]; exact hfl j hj)
    have HFF := Lib.hid hff
    clear h hl hwf hom hjv0 hrl hn hm hrl1 hi hv HU hff hfl hf
    have e11 : W.cell? ⟨bx, 11, none⟩ = some (.int .i64 1) := HB.out.cell rfl
    have e12 : W.cell? ⟨bx, 12, none⟩ = some (.int .i64 (iN : Int)) := HB.out.cell rfl
    go_enter Try.func46, Try.ntmps46
    go_wp2_with fail
    have HB8 : Hid (Blk (W.setCell ⟨bx, 12, none⟩ (.int .i64 ((iN : Int) + 1))) bx ({ ({ x with row := 1, i := (iN : Int) } : ROp) with u := x.u, i := (iN : Int) + 1 } : ROp).cells 45) := Lib.hid (HB.out.set 12 (.int .i64 ((iN : Int) + 1)))
    have HC8 : Hid (Chg [bx] W (W.setCell ⟨bx, 12, none⟩ (.int .i64 ((iN : Int) + 1)))) := Lib.hid ((Chg.refl [bx] W).setCell (.inl (by simp)) _)
    refine code_gen (R := fun V => Hid (Blk V bx ({ ({ x with row := 1, i := (iN : Int) } : ROp) with u := x.u, i := (iN : Int) + 1 } : ROp).cells 45) ∧ Hid (Chg [bx] W V)) ⟨HB8, HC8⟩ ?_
    clear HB8 HC8 e11 e12 f12
    rintro W3 ⟨HB8, HC8⟩
    have e12 : W3.cell? ⟨bx, 12, none⟩ = some (.int .i64 ((iN : Int) + 1)) := HB8.out.cell rfl
    have e7 : W3.cell? ⟨bx, 7, none⟩ = some (.slice x.ra x.rl x.rc) := HB8.out.cell rfl
    have eS0 : W3.cell? ⟨bx, 12, none⟩ = some (.int .i64 ((iN : Int) + 1)) := e12
    have eS1 : W3.cell? ⟨bx, 7, none⟩ = some (.slice x.ra x.rl x.rc) := e7
    have KEEP := Lib.hid (fun (V : World) (h : Chg [] W3 V) => (⟨h.keep eS0 (by simp), h.keep eS1 (by simp), Lib.hid h⟩ : (fun V : World => V.cell? ⟨bx, 12, none⟩ = some (.int .i64 ((iN : Int) + 1)) ∧ V.cell? ⟨bx, 7, none⟩ = some (.slice x.ra x.rl x.rc) ∧ Hid (Chg [] W3 V)) V))
    clear eS0 eS1 e12 e7
    have hHeld : (fun V : World => V.cell? ⟨bx, 12, none⟩ = some (.int .i64 ((iN : Int) + 1)) ∧ V.cell? ⟨bx, 7, none⟩ = some (.slice x.ra x.rl x.rc) ∧ Hid (Chg [] W3 V)) (World.drew W3) := KEEP.out _ (Chg.refl _ _).drew
    refine wp_region_plan (fun V : World => V.cell? ⟨bx, 12, none⟩ = some (.int .i64 ((iN : Int) + 1)) ∧ V.cell? ⟨bx, 7, none⟩ = some (.slice x.ra x.rl x.rc) ∧ Hid (Chg [] W3 V)) [(0, true, some 53), (1, true, some 54), (2, true, some 55), (3, true, some 56), (4, true, some 57), (5, true, some 58), (6, true, some 59), (7, true, some 60), (8, true, some 61), (9, true, some 62), (10, true, some 63)] (by kernel_rfl) (by kernel_rfl) (by kernel_rfl) (by kernel_rfl) (fun d c a v w h => by cases d <;> exact h) hHeld ?_
    repeat (first
      | (refine planWp_read (v := ?_) rfl rfl ?_ ?_ ?_; rotate_left; (focus rfl); (focus (intro u hSw; (try dsimp only at hSw); go_simp; (try with_reducible rfl))); (try simp only [Act.put, List.setIfInBounds_toArray, List.set_cons_zero, List.set_cons_succ]))
      | (refine planWp_skip rfl rfl ?_ ?_; (focus rfl); (try simp only [Act.put, List.setIfInBounds_toArray, List.set_cons_zero, List.set_cons_succ]))
      | (refine planWp_leave rfl rfl ?_ hHeld ?_; (focus rfl); (try simp only [Act.put, List.setIfInBounds_toArray, List.set_cons_zero, List.set_cons_succ]))
      | (refine planWp_do rfl rfl ?_ (fun K hK => ?_); (focus rfl); go_simp; (try go_wp2_with fail); refine hK.out _ _ ?_ (fun hHeld2 => ?_); (focus (exact KEEP.out _ (Chg.trans hHeld.2.2.out HCX.out))); clear hK K hHeld; have hHeld := hHeld2; clear hHeld2; (try simp only [Act.put, List.setIfInBounds_toArray, List.set_cons_zero, List.set_cons_succ])))
    refine planWp_nil ?_
    have HR9 := Lib.hid hHeld.2.2.out
    clear hHeld KEEP
    refine then_gen (R := fun V => Hid (Chg [] W3 V)) HR9 ?_
    clear HR9
    rintro W4 HR9
    have HB9 : Hid (Blk W4 bx ({ ({ x with row := 1, i := (iN : Int) } : ROp) with u := x.u, i := (iN : Int) + 1 } : ROp).cells 45) := Lib.hid (HB8.out.keep HR9.out (by simp))
    have HC9 : Hid (Chg [bx] W W4) := Lib.hid (HC8.out.fresh HR9.out)
    clear HB8 HC8 HR9
    have e17 : W4.cell? ⟨bx, 17, none⟩ = some (.int .u32 x.b) := HB9.out.cell rfl
    have f17 := HB9.out.free 17
    go_wp2_with (first | (go_at_call 72; refine (choose_any bx ({ ({ x with row := 1, i := (iN : Int) } : ROp) with u := x.u, i := (iN : Int) + 1 } : ROp) f _ HB9.out HF.out HFF.out HFL.out).mono ?_; rintro e w ⟨rfl, rfl⟩) | (go_at_call 68; refine (to_any bx ({ ({ x with row := 1, i := (iN : Int) } : ROp) with u := x.u, b := (f : Int), i := (iN : Int) + 1 } : ROp) 2 _ (HB9.out.set 17 (.int .u32 (f : Int)))).mono ?_; rintro e W7 ⟨rfl, hr7, hc7⟩; have HR7 := Lib.hid hr7; have HC7 := Lib.hid hc7; clear hr7 hc7))
    all_goals (first | go_end0 | refine bodyPost_ret (results_none rfl _ _ _) rfl ?_)
    all_goals exact ⟨rfl, HR7.out, LT.keep HL.out ((HC9.out.setCell (.inl (by simp)) _).trans HC7.out) (by simp; exact hne1b), (HC9.out.setCell (.inl (by simp)) _).trans HC7.out⟩
set_option maxHeartbeats 8000000 in
theorem cabW_2 (bx g rg o m cp iN rn rcap : Nat) (x : ROp) (ws : List Int) (rv : Int) (at_ : Nat) (W : World) (h : RAt W bx ({ x with row := 2, i := (iN : Int), rcd := .slice (some ⟨rg, 0, none⟩) rn rcap } : ROp)) (hl : LT tn W g ws) (hop : x.op = writesI x.k) (hrl : x.rl ≤ 100) (hw : 1 ≤ x.w ∧ x.w ≤ 8) (hi : iN ≤ 100) (hir : iN < rn)
    (hsl : 0 ≤ x.b ∧ x.b ≤ 4294967295) (hat : headI x.k x.rl + x.b * x.w + iN = (at_ : Int)) (ham : at_ < m) (hmc : m ≤ cp) (hom : o + m ≤ ws.length)
    (hrv : W.cell? ⟨rg, iN, none⟩ = some (.int .u32 rv)) (hne1 : bx ≠ g) (hne2 : ¬ rg = bx) (hne3 : ¬ rg = g) :
    Calls Try.prog 46 #[.pointer (some ⟨bx, 0, none⟩), .slice (some ⟨g, o, none⟩) m cp] W fun e W' => e = .returned (.tuple #[]) ∧ RAt W' bx (if (iN : Int) + 1 < x.w then { ({ x with row := 2, i := (iN : Int), rcd := .slice (some ⟨rg, 0, none⟩) rn rcap } : ROp) with i := (iN : Int) + 1 } else { ({ x with row := 2, i := (iN : Int), rcd := .slice (some ⟨rg, 0, none⟩) rn rcap } : ROp) with row := 3, i := 0 }) ∧ LT tn W' g (ws.set (o + at_) rv) ∧ Chg [bx, g] W W' := by
  have HB : Hid (Blk W bx ({ x with row := 2, i := (iN : Int), rcd := .slice (some ⟨rg, 0, none⟩) rn rcap } : ROp).cells 45) := Lib.hid h
  have hword := word_write bx g rg ({ x with row := 2 } : ROp) x.b 3 o m cp iN rn rcap at_ ws rv W HB.out hl hop hrl hw hi hir hsl hat ham hmc hom hrv hne1 hne2 hne3
  rw [if_neg (show ¬ ((3 : Int) < 0) by decide)] at hword
  have HWORD := Lib.hid hword
  have e11 : W.cell? ⟨bx, 11, none⟩ = some (.int .i64 2) := HB.out.cell rfl
  have e17 : W.cell? ⟨bx, 17, none⟩ = some (.int .u32 x.b) := HB.out.cell rfl
  generalize hpost : (if (iN : Int) + 1 < x.w then { ({ x with row := 2, i := (iN : Int), rcd := .slice (some ⟨rg, 0, none⟩) rn rcap } : ROp) with i := (iN : Int) + 1 } else { ({ x with row := 2, i := (iN : Int), rcd := .slice (some ⟨rg, 0, none⟩) rn rcap } : ROp) with row := 3, i := 0 }) = yy
  have HPOST := Lib.hid hpost
  clear h hl hop hrl hrv hat hword hom hpost hsl
  go_enter Try.func46, Try.ntmps46
  go_wp2_with (go_at_call 69; refine HWORD.out.mono ?_; rintro e W7 ⟨rfl, hr7, hl7, hc7⟩; have HR7 := Lib.hid hr7; have HL7 := Lib.hid hl7; have HC7 := Lib.hid hc7; clear hr7 hl7 hc7)
  all_goals (first | go_end0 | refine bodyPost_ret (results_none rfl _ _ _) rfl ?_)
  all_goals exact ⟨rfl, by rw [← HPOST.out]; exact HR7.out, HL7.out, HC7.out⟩
set_option maxHeartbeats 8000000 in
theorem cabW_3 (bx g o m cp : Nat) (x : ROp) (ws : List Int) (W : World) (h : RAt W bx ({ x with row := 3 } : ROp)) (hl : LT tn W g ws) (hwf : ∀ z ∈ ws, 0 ≤ z ∧ z ≤ 4294967295) (hm : 1 ≤ m) (hmc : m ≤ cp) (hom : o + m ≤ ws.length) (hne1 : bx ≠ g) :
    Calls Try.prog 46 #[.pointer (some ⟨bx, 0, none⟩), .slice (some ⟨g, o, none⟩) m cp] W fun e W' => e = .returned (.tuple #[]) ∧ RAt W' bx (({ x with row := 3 } : ROp).ended 0) ∧ LT tn W' g (ws.set (o + 0) x.b) ∧ Chg [bx, g] W W' := by
  have HB : Hid (Blk W bx ({ x with row := 3 } : ROp).cells 45) := Lib.hid h
  have HL := Lib.hid hl
  have hm00 : 0 < m := by omega
  have hm00I : (0 : Int) < (m : Int) := by omega
  have hne1b : ¬ g = bx := fun hh => hne1 hh.symm
  have hjv0 : o + 0 < ws.length := by omega
  have cv0 : W.cell? ⟨g, o, none⟩ = some (.int .u32 (ws.getD (o + 0) 0)) := LT.word HL.out (o + 0) hjv0
  have bv0 : 0 ≤ ws.getD (o + 0) 0 ∧ ws.getD (o + 0) 0 ≤ 4294967295 := hwf _ (by rw [List.getD_eq_getElem?_getD, List.getElem?_eq_getElem hjv0]; exact List.getElem_mem hjv0)
  generalize ws.getD (o + 0) 0 = v0 at *
  have e11 : W.cell? ⟨bx, 11, none⟩ = some (.int .i64 3) := HB.out.cell rfl
  have e17 : W.cell? ⟨bx, 17, none⟩ = some (.int .u32 x.b) := HB.out.cell rfl
  have g1 : W.frozen? ⟨g, o, none⟩ = false := HL.out.free (o + 0)
  have HLT9 := Lib.hid hjv0
  clear h hl hwf hom hjv0
  go_enter Try.func46, Try.ntmps46
  go_wp2_with (go_at_call 70; refine (end_any bx ({ x with row := 3 } : ROp) 0 _ (Blk.set_ne HB.out hne1 _ _ _)).mono ?_; rintro e W7 ⟨rfl, hr7, hc7⟩; have HR7 := Lib.hid hr7; have HC7 := Lib.hid hc7; clear hr7 hc7)
  all_goals (first | go_end0 | refine bodyPost_ret (results_none rfl _ _ _) rfl ?_)
  all_goals exact ⟨rfl, HR7.out, LT.keep (LT.put HL.out (o + 0) x.b HLT9.out) HC7.out (by simp; exact hne1b), ((Chg.refl [bx, g] W).setCell (.inl (by simp)) _).trans (HC7.out.mono (by simp))⟩
set_option maxHeartbeats 8000000 in
theorem cabR_0 (bx g o m cp rN : Nat) (x : ROp) (ws : List Int) (W : World) (h : RAt W bx ({ x with row := 0 } : ROp)) (hl : LT tn W g ws) (hwf : ∀ z ∈ ws, 0 ≤ z ∧ z ≤ 4294967295) (hm : 1 + rN < m) (hmc : m ≤ cp) (hom : o + m ≤ ws.length) (hne1 : bx ≠ g) (hs : 1 ≤ x.s ∧ x.s ≤ 16) (hrd : x.reader = (rN : Int)) (hrb : rN ≤ 100) :
    Calls Try.prog 47 #[.pointer (some ⟨bx, 0, none⟩), .slice (some ⟨g, o, none⟩) m cp] W fun e W' => e = .returned (.tuple #[]) ∧ RAt W' bx ({ ({ x with row := 0 } : ROp) with a := ws.getD (o + 0) 0 % x.s, row := 1, i := 0 } : ROp) ∧ LT tn W' g (ws) ∧ Chg [bx] W W' := by
  have HB : Hid (Blk W bx ({ x with row := 0 } : ROp).cells 45) := Lib.hid h
  have HL := Lib.hid hl
  have hm00 : 0 < m := by omega
  have hm00I : (0 : Int) < (m : Int) := by omega
  have hne1b : ¬ g = bx := fun hh => hne1 hh.symm
  have kr : IntKind.i64.wrap (1 + (rN : Int)) = ((1 + rN : Nat) : Int) := by rw [IntKind.wrap_i64]; omega
  have hr1 : 1 + rN < m := by omega
  have hr2 : ((1 + rN : Nat) : Int) < (m : Int) := by omega
  have hr3 : (1 : Int) + (rN : Int) < (m : Int) := by omega
  have hjv0 : o + 0 < ws.length := by omega
  have cv0 : W.cell? ⟨g, o, none⟩ = some (.int .u32 (ws.getD (o + 0) 0)) := LT.word HL.out (o + 0) hjv0
  have bv0 : 0 ≤ ws.getD (o + 0) 0 ∧ ws.getD (o + 0) 0 ≤ 4294967295 := hwf _ (by rw [List.getD_eq_getElem?_getD, List.getElem?_eq_getElem hjv0]; exact List.getElem_mem hjv0)
  generalize ws.getD (o + 0) 0 = v0 at *
  have k1 : IntKind.u32.wrap x.s = x.s := by rw [IntKind.wrap_u32]; omega
  have hs0 : x.s ≠ 0 := by omega
  have hs1 : (x.s == 0) = false := by simp; omega
  have kt : Int.tmod v0 x.s = v0 % x.s := Int.tmod_eq_emod_of_nonneg bv0.1
  have q1 := Int.emod_lt_of_pos v0 (show 0 < x.s by omega)
  have q2 := Int.emod_nonneg v0 hs0
  obtain ⟨q, hq⟩ : ∃ q, v0 % x.s = q := ⟨_, rfl⟩
  rw [hq] at kt q1 q2
  have kw : IntKind.u32.wrap q = q := by rw [IntKind.wrap_u32]; omega
  have HRD : Hid (∀ (R : Option Value), R = some (.int .i64 x.reader) → R = some (.int .i64 (rN : Int))) := Lib.hid (fun R hR => by rw [hR, hrd])
  have e2 : W.cell? ⟨bx, 2, none⟩ = some (.int .i64 x.s) := HB.out.cell rfl
  rw [hq]
  clear h hl hwf hom hjv0 hq hrd hrb hm
  go_enter Try.func47, Try.ntmps47
  go_wp2_with fail
  have eS0 : W.cell? ⟨g, o, none⟩ = some (.int .u32 v0) := cv0
  have eS1 : W.cell? ⟨bx, 2, none⟩ = some (.int .i64 x.s) := e2
  have KEEP := Lib.hid (fun (V : World) (h : Chg [] W V) => (⟨h.keep eS0 (by simp), h.keep eS1 (by simp), Lib.hid h⟩ : (fun V : World => V.cell? ⟨g, o, none⟩ = some (.int .u32 v0) ∧ V.cell? ⟨bx, 2, none⟩ = some (.int .i64 x.s) ∧ Hid (Chg [] W V)) V))
  clear eS0 eS1 cv0 e2
  have hHeld : (fun V : World => V.cell? ⟨g, o, none⟩ = some (.int .u32 v0) ∧ V.cell? ⟨bx, 2, none⟩ = some (.int .i64 x.s) ∧ Hid (Chg [] W V)) (World.drew W) := KEEP.out _ (Chg.refl _ _).drew
  refine wp_region_plan (fun V : World => V.cell? ⟨g, o, none⟩ = some (.int .u32 v0) ∧ V.cell? ⟨bx, 2, none⟩ = some (.int .i64 x.s) ∧ Hid (Chg [] W V)) [(0, true, some 6), (1, true, some 7), (2, true, some 8), (3, true, some 9), (4, true, some 10), (5, true, some 11), (6, true, some 12), (7, true, some 13), (8, true, some 14), (9, true, some 15), (10, true, some 4)] (by kernel_rfl) (by kernel_rfl) (by kernel_rfl) (by kernel_rfl) (fun d c a v w h => by cases d <;> exact h) hHeld ?_
  repeat (first
    | (refine planWp_read (v := ?_) rfl rfl ?_ ?_ ?_; rotate_left; (focus rfl); (focus (intro u hSw; (try dsimp only at hSw); go_simp; (try with_reducible rfl))); (try simp only [Act.put, List.setIfInBounds_toArray, List.set_cons_zero, List.set_cons_succ]))
    | (refine planWp_skip rfl rfl ?_ ?_; (focus rfl); (try simp only [Act.put, List.setIfInBounds_toArray, List.set_cons_zero, List.set_cons_succ]))
    | (refine planWp_leave rfl rfl ?_ hHeld ?_; (focus rfl); (try simp only [Act.put, List.setIfInBounds_toArray, List.set_cons_zero, List.set_cons_succ]))
    | (refine planWp_do rfl rfl ?_ (fun K hK => ?_); (focus rfl); go_simp; (try go_wp2_with fail); refine hK.out _ _ ?_ (fun hHeld2 => ?_); (focus (exact KEEP.out _ (Chg.trans hHeld.2.2.out HCX.out))); clear hK K hHeld; have hHeld := hHeld2; clear hHeld2; (try simp only [Act.put, List.setIfInBounds_toArray, List.set_cons_zero, List.set_cons_succ])))
  refine planWp_nil ?_
  have HR9 := Lib.hid hHeld.2.2.out
  clear hHeld KEEP
  refine then_gen (R := fun V => Hid (Chg [] W V)) HR9 ?_
  clear HR9
  rintro wf HR9
  have HBF : Hid (Blk wf bx ({ x with row := 0 } : ROp).cells 45) := Lib.hid (HB.out.keep HR9.out (by simp))
  have e11 : wf.cell? ⟨bx, 11, none⟩ = some (.int .i64 0) := HBF.out.cell rfl
  have e16 : wf.cell? ⟨bx, 16, none⟩ = some (.int .u32 x.a) := HBF.out.cell rfl
  have e10 : wf.cell? ⟨bx, 10, none⟩ = some (.int .i64 (rN : Int)) := HRD.out _ (HBF.out.cell rfl)
  have f16 := HBF.out.free 16
  go_wp2_with (go_at_call 68; refine (to_any bx ({ x with row := 0, a := q } : ROp) 1 _ (HBF.out.set 16 (.int .u32 q))).mono ?_; rintro e W7 ⟨rfl, hr7, hc7⟩; have HR7 := Lib.hid hr7; have HC7 := Lib.hid hc7; clear hr7 hc7)
  all_goals (first | go_end0 | refine bodyPost_ret (results_none rfl _ _ _) rfl ?_)
  all_goals exact ⟨rfl, HR7.out, LT.keep (LT.set_ne (LT.keep HL.out HR9.out (by simp)) hne1b _ _ _) HC7.out (by simp; exact hne1b), ((HR9.out.mono (by simp)).setCell (.inl (by simp)) _).trans HC7.out⟩
set_option maxHeartbeats 8000000 in
theorem cabR_1 (bx g o m cp rN : Nat) (x : ROp) (ws : List Int) (W : World) (h : RAt W bx ({ x with row := 1 } : ROp)) (hl : LT tn W g ws) (hwf : ∀ z ∈ ws, 0 ≤ z ∧ z ≤ 4294967295) (hm : 1 + rN < m) (hmc : m ≤ cp) (hom : o + m ≤ ws.length) (hne1 : bx ≠ g) (hs : 1 ≤ x.s ∧ x.s ≤ 16) (hrd : x.reader = (rN : Int)) (hrb : rN ≤ 100) (ha : 0 ≤ x.a ∧ x.a ≤ 4294967295) :
    Calls Try.prog 47 #[.pointer (some ⟨bx, 0, none⟩), .slice (some ⟨g, o, none⟩) m cp] W fun e W' => e = .returned (.tuple #[]) ∧ RAt W' bx ({ ({ x with row := 1 } : ROp) with row := 2, i := 0 } : ROp) ∧ LT tn W' g (ws.set (o + (1 + rN)) ((x.a + 1) % 4294967296)) ∧ Chg [bx, g] W W' := by
  have HB : Hid (Blk W bx ({ x with row := 1 } : ROp).cells 45) := Lib.hid h
  have HL := Lib.hid hl
  have hm00 : 0 < m := by omega
  have hm00I : (0 : Int) < (m : Int) := by omega
  have hne1b : ¬ g = bx := fun hh => hne1 hh.symm
  have kr : IntKind.i64.wrap (1 + (rN : Int)) = ((1 + rN : Nat) : Int) := by rw [IntKind.wrap_i64]; omega
  have hr1 : 1 + rN < m := by omega
  have hr2 : ((1 + rN : Nat) : Int) < (m : Int) := by omega
  have hr3 : (1 : Int) + (rN : Int) < (m : Int) := by omega
  have hjv0 : o + 0 < ws.length := by omega
  have cv0 : W.cell? ⟨g, o, none⟩ = some (.int .u32 (ws.getD (o + 0) 0)) := LT.word HL.out (o + 0) hjv0
  have bv0 : 0 ≤ ws.getD (o + 0) 0 ∧ ws.getD (o + 0) 0 ≤ 4294967295 := hwf _ (by rw [List.getD_eq_getElem?_getD, List.getElem?_eq_getElem hjv0]; exact List.getElem_mem hjv0)
  generalize ws.getD (o + 0) 0 = v0 at *
  have k1 : IntKind.u32.wrap x.s = x.s := by rw [IntKind.wrap_u32]; omega
  have hs0 : x.s ≠ 0 := by omega
  have hs1 : (x.s == 0) = false := by simp; omega
  have kt : Int.tmod v0 x.s = v0 % x.s := Int.tmod_eq_emod_of_nonneg bv0.1
  have q1 := Int.emod_lt_of_pos v0 (show 0 < x.s by omega)
  have q2 := Int.emod_nonneg v0 hs0
  obtain ⟨q, hq⟩ : ∃ q, v0 % x.s = q := ⟨_, rfl⟩
  rw [hq] at kt q1 q2
  have kw : IntKind.u32.wrap q = q := by rw [IntKind.wrap_u32]; omega
  have HRD : Hid (∀ (R : Option Value), R = some (.int .i64 x.reader) → R = some (.int .i64 (rN : Int))) := Lib.hid (fun R hR => by rw [hR, hrd])
  have e2 : W.cell? ⟨bx, 2, none⟩ = some (.int .i64 x.s) := HB.out.cell rfl
  have HJR : Hid (o + (1 + rN) < ws.length) := Lib.hid (by omega)
  have hw32 : IntKind.u32.wrap (x.a + 1) = (x.a + 1) % 4294967296 := by rw [IntKind.wrap_u32]
  clear h hl hwf hom hjv0 hq hrd hrb hm ha
  go_enter Try.func47, Try.ntmps47
  go_wp2_with fail
  have eS0 : W.cell? ⟨g, o, none⟩ = some (.int .u32 v0) := cv0
  have eS1 : W.cell? ⟨bx, 2, none⟩ = some (.int .i64 x.s) := e2
  have KEEP := Lib.hid (fun (V : World) (h : Chg [] W V) => (⟨h.keep eS0 (by simp), h.keep eS1 (by simp), Lib.hid h⟩ : (fun V : World => V.cell? ⟨g, o, none⟩ = some (.int .u32 v0) ∧ V.cell? ⟨bx, 2, none⟩ = some (.int .i64 x.s) ∧ Hid (Chg [] W V)) V))
  clear eS0 eS1 cv0 e2
  have hHeld : (fun V : World => V.cell? ⟨g, o, none⟩ = some (.int .u32 v0) ∧ V.cell? ⟨bx, 2, none⟩ = some (.int .i64 x.s) ∧ Hid (Chg [] W V)) (World.drew W) := KEEP.out _ (Chg.refl _ _).drew
  refine wp_region_plan (fun V : World => V.cell? ⟨g, o, none⟩ = some (.int .u32 v0) ∧ V.cell? ⟨bx, 2, none⟩ = some (.int .i64 x.s) ∧ Hid (Chg [] W V)) [(0, true, some 6), (1, true, some 7), (2, true, some 8), (3, true, some 9), (4, true, some 10), (5, true, some 11), (6, true, some 12), (7, true, some 13), (8, true, some 14), (9, true, some 15), (10, true, some 4)] (by kernel_rfl) (by kernel_rfl) (by kernel_rfl) (by kernel_rfl) (fun d c a v w h => by cases d <;> exact h) hHeld ?_
  repeat (first
    | (refine planWp_read (v := ?_) rfl rfl ?_ ?_ ?_; rotate_left; (focus rfl); (focus (intro u hSw; (try dsimp only at hSw); go_simp; (try with_reducible rfl))); (try simp only [Act.put, List.setIfInBounds_toArray, List.set_cons_zero, List.set_cons_succ]))
    | (refine planWp_skip rfl rfl ?_ ?_; (focus rfl); (try simp only [Act.put, List.setIfInBounds_toArray, List.set_cons_zero, List.set_cons_succ]))
    | (refine planWp_leave rfl rfl ?_ hHeld ?_; (focus rfl); (try simp only [Act.put, List.setIfInBounds_toArray, List.set_cons_zero, List.set_cons_succ]))
    | (refine planWp_do rfl rfl ?_ (fun K hK => ?_); (focus rfl); go_simp; (try go_wp2_with fail); refine hK.out _ _ ?_ (fun hHeld2 => ?_); (focus (exact KEEP.out _ (Chg.trans hHeld.2.2.out HCX.out))); clear hK K hHeld; have hHeld := hHeld2; clear hHeld2; (try simp only [Act.put, List.setIfInBounds_toArray, List.set_cons_zero, List.set_cons_succ])))
  refine planWp_nil ?_
  have HR9 := Lib.hid hHeld.2.2.out
  clear hHeld KEEP
  refine then_gen (R := fun V => Hid (Chg [] W V)) HR9 ?_
  clear HR9
  rintro wf HR9
  have HBF : Hid (Blk wf bx ({ x with row := 1 } : ROp).cells 45) := Lib.hid (HB.out.keep HR9.out (by simp))
  have e11 : wf.cell? ⟨bx, 11, none⟩ = some (.int .i64 1) := HBF.out.cell rfl
  have e16 : wf.cell? ⟨bx, 16, none⟩ = some (.int .u32 x.a) := HBF.out.cell rfl
  have e10 : wf.cell? ⟨bx, 10, none⟩ = some (.int .i64 (rN : Int)) := HRD.out _ (HBF.out.cell rfl)
  have gw : wf.cell? ⟨g, o + (1 + rN), none⟩ = some (.int .u32 (ws.getD (o + (1 + rN)) 0)) := LT.word (LT.keep HL.out HR9.out (by simp)) _ HJR.out
  have gf : wf.frozen? ⟨g, o + (1 + rN), none⟩ = false := (LT.keep HL.out HR9.out (by simp)).free _
  go_wp2_with (go_at_call 68; refine (to_any bx ({ x with row := 1 } : ROp) 2 _ (Blk.set_ne HBF.out hne1 _ _ _)).mono ?_; rintro e W7 ⟨rfl, hr7, hc7⟩; have HR7 := Lib.hid hr7; have HC7 := Lib.hid hc7; clear hr7 hc7)
  all_goals (first | go_end0 | refine bodyPost_ret (results_none rfl _ _ _) rfl ?_)
  all_goals exact ⟨rfl, HR7.out, LT.keep (LT.put (LT.keep HL.out HR9.out (by simp)) (o + (1 + rN)) ((x.a + 1) % 4294967296) HJR.out) HC7.out (by simp; exact hne1b), ((HR9.out.mono (by simp)).setCell (.inl (by simp)) _).trans (HC7.out.mono (by simp))⟩
set_option maxHeartbeats 8000000 in
theorem cabR_2 (bx g o m cp rN : Nat) (x : ROp) (ws : List Int) (W : World) (h : RAt W bx ({ x with row := 2 } : ROp)) (hl : LT tn W g ws) (hwf : ∀ z ∈ ws, 0 ≤ z ∧ z ≤ 4294967295) (hm : 1 + rN < m) (hmc : m ≤ cp) (hom : o + m ≤ ws.length) (hne1 : bx ≠ g) (hs : 1 ≤ x.s ∧ x.s ≤ 16) (hrd : x.reader = (rN : Int)) (hrb : rN ≤ 100) (ht : 0 ≤ x.tries ∧ x.tries ≤ 1000000) :
    Calls Try.prog 47 #[.pointer (some ⟨bx, 0, none⟩), .slice (some ⟨g, o, none⟩) m cp] W fun e W' => e = .returned (.tuple #[]) ∧ RAt W' bx (if ws.getD (o + 0) 0 % x.s = x.a then ({ ({ x with row := 2 } : ROp) with row := 3, i := 0 } : ROp) else if x.c ≤ x.tries + 1 then ({ ({ ({ x with row := 2 } : ROp) with tries := x.tries + 1, rcd := .slice none 0 0, row := 0, i := 0 } : ROp) with row := 5, i := 0 } : ROp) else ({ ({ x with row := 2 } : ROp) with tries := x.tries + 1, rcd := .slice none 0 0, row := 0, i := 0 } : ROp)) ∧ LT tn W' g (ws) ∧ Chg [bx] W W' := by
  have HB : Hid (Blk W bx ({ x with row := 2 } : ROp).cells 45) := Lib.hid h
  have HL := Lib.hid hl
  have hm00 : 0 < m := by omega
  have hm00I : (0 : Int) < (m : Int) := by omega
  have hne1b : ¬ g = bx := fun hh => hne1 hh.symm
  have kr : IntKind.i64.wrap (1 + (rN : Int)) = ((1 + rN : Nat) : Int) := by rw [IntKind.wrap_i64]; omega
  have hr1 : 1 + rN < m := by omega
  have hr2 : ((1 + rN : Nat) : Int) < (m : Int) := by omega
  have hr3 : (1 : Int) + (rN : Int) < (m : Int) := by omega
  have hjv0 : o + 0 < ws.length := by omega
  have cv0 : W.cell? ⟨g, o, none⟩ = some (.int .u32 (ws.getD (o + 0) 0)) := LT.word HL.out (o + 0) hjv0
  have bv0 : 0 ≤ ws.getD (o + 0) 0 ∧ ws.getD (o + 0) 0 ≤ 4294967295 := hwf _ (by rw [List.getD_eq_getElem?_getD, List.getElem?_eq_getElem hjv0]; exact List.getElem_mem hjv0)
  generalize ws.getD (o + 0) 0 = v0 at *
  have k1 : IntKind.u32.wrap x.s = x.s := by rw [IntKind.wrap_u32]; omega
  have hs0 : x.s ≠ 0 := by omega
  have hs1 : (x.s == 0) = false := by simp; omega
  have kt : Int.tmod v0 x.s = v0 % x.s := Int.tmod_eq_emod_of_nonneg bv0.1
  have q1 := Int.emod_lt_of_pos v0 (show 0 < x.s by omega)
  have q2 := Int.emod_nonneg v0 hs0
  obtain ⟨q, hq⟩ : ∃ q, v0 % x.s = q := ⟨_, rfl⟩
  rw [hq] at kt q1 q2
  have kw : IntKind.u32.wrap q = q := by rw [IntKind.wrap_u32]; omega
  have HRD : Hid (∀ (R : Option Value), R = some (.int .i64 x.reader) → R = some (.int .i64 (rN : Int))) := Lib.hid (fun R hR => by rw [hR, hrd])
  have e2 : W.cell? ⟨bx, 2, none⟩ = some (.int .i64 x.s) := HB.out.cell rfl
  rw [hq]
  have HT := Lib.hid ht
  generalize hpost : (if q = x.a then ({ ({ x with row := 2 } : ROp) with row := 3, i := 0 } : ROp) else if x.c ≤ x.tries + 1 then ({ ({ ({ x with row := 2 } : ROp) with tries := x.tries + 1, rcd := .slice none 0 0, row := 0, i := 0 } : ROp) with row := 5, i := 0 } : ROp) else ({ ({ x with row := 2 } : ROp) with tries := x.tries + 1, rcd := .slice none 0 0, row := 0, i := 0 } : ROp)) = yy
  have HPOST := Lib.hid hpost
  clear h hl hwf hom hjv0 hq hrd hrb hm ht hpost
  by_cases hf : q = x.a
  · have HP : Hid (yy = ({ ({ x with row := 2 } : ROp) with row := 3, i := 0 } : ROp)) := Lib.hid (HPOST.out.symm.trans (if_pos hf))
    have hqb : (q == x.a) = true := by simpa using hf
    clear hf
    go_enter Try.func47, Try.ntmps47
    go_wp2_with fail
    have eS0 : W.cell? ⟨g, o, none⟩ = some (.int .u32 v0) := cv0
    have eS1 : W.cell? ⟨bx, 2, none⟩ = some (.int .i64 x.s) := e2
    have KEEP := Lib.hid (fun (V : World) (h : Chg [] W V) => (⟨h.keep eS0 (by simp), h.keep eS1 (by simp), Lib.hid h⟩ : (fun V : World => V.cell? ⟨g, o, none⟩ = some (.int .u32 v0) ∧ V.cell? ⟨bx, 2, none⟩ = some (.int .i64 x.s) ∧ Hid (Chg [] W V)) V))
    clear eS0 eS1 cv0 e2
    have hHeld : (fun V : World => V.cell? ⟨g, o, none⟩ = some (.int .u32 v0) ∧ V.cell? ⟨bx, 2, none⟩ = some (.int .i64 x.s) ∧ Hid (Chg [] W V)) (World.drew W) := KEEP.out _ (Chg.refl _ _).drew
    refine wp_region_plan (fun V : World => V.cell? ⟨g, o, none⟩ = some (.int .u32 v0) ∧ V.cell? ⟨bx, 2, none⟩ = some (.int .i64 x.s) ∧ Hid (Chg [] W V)) [(0, true, some 6), (1, true, some 7), (2, true, some 8), (3, true, some 9), (4, true, some 10), (5, true, some 11), (6, true, some 12), (7, true, some 13), (8, true, some 14), (9, true, some 15), (10, true, some 4)] (by kernel_rfl) (by kernel_rfl) (by kernel_rfl) (by kernel_rfl) (fun d c a v w h => by cases d <;> exact h) hHeld ?_
    repeat (first
      | (refine planWp_read (v := ?_) rfl rfl ?_ ?_ ?_; rotate_left; (focus rfl); (focus (intro u hSw; (try dsimp only at hSw); go_simp; (try with_reducible rfl))); (try simp only [Act.put, List.setIfInBounds_toArray, List.set_cons_zero, List.set_cons_succ]))
      | (refine planWp_skip rfl rfl ?_ ?_; (focus rfl); (try simp only [Act.put, List.setIfInBounds_toArray, List.set_cons_zero, List.set_cons_succ]))
      | (refine planWp_leave rfl rfl ?_ hHeld ?_; (focus rfl); (try simp only [Act.put, List.setIfInBounds_toArray, List.set_cons_zero, List.set_cons_succ]))
      | (refine planWp_do rfl rfl ?_ (fun K hK => ?_); (focus rfl); go_simp; (try go_wp2_with fail); refine hK.out _ _ ?_ (fun hHeld2 => ?_); (focus (exact KEEP.out _ (Chg.trans hHeld.2.2.out HCX.out))); clear hK K hHeld; have hHeld := hHeld2; clear hHeld2; (try simp only [Act.put, List.setIfInBounds_toArray, List.set_cons_zero, List.set_cons_succ])))
    refine planWp_nil ?_
    have HR9 := Lib.hid hHeld.2.2.out
    clear hHeld KEEP
    refine then_gen (R := fun V => Hid (Chg [] W V)) HR9 ?_
    clear HR9
    rintro wf HR9
    have HBF : Hid (Blk wf bx ({ x with row := 2 } : ROp).cells 45) := Lib.hid (HB.out.keep HR9.out (by simp))
    have e11 : wf.cell? ⟨bx, 11, none⟩ = some (.int .i64 2) := HBF.out.cell rfl
    have e16 : wf.cell? ⟨bx, 16, none⟩ = some (.int .u32 x.a) := HBF.out.cell rfl
    have e10 : wf.cell? ⟨bx, 10, none⟩ = some (.int .i64 (rN : Int)) := HRD.out _ (HBF.out.cell rfl)
    go_wp2_with (go_at_call 68; refine (to_any bx ({ x with row := 2 } : ROp) 3 _ HBF.out).mono ?_; rintro e W7 ⟨rfl, hr7, hc7⟩; have HR7 := Lib.hid hr7; have HC7 := Lib.hid hc7; clear hr7 hc7)
    all_goals (first | go_end0 | refine bodyPost_ret (results_none rfl _ _ _) rfl ?_)
    all_goals exact ⟨rfl, by rw [HP.out]; exact HR7.out, LT.keep (LT.keep HL.out HR9.out (by simp)) HC7.out (by simp; exact hne1b), (HR9.out.mono (by simp)).trans HC7.out⟩
  · have hqb : (q == x.a) = false := by simpa using hf
    by_cases hc : x.c ≤ x.tries + 1
    · have HP : Hid (yy = ({ ({ ({ x with row := 2 } : ROp) with tries := x.tries + 1, rcd := .slice none 0 0, row := 0, i := 0 } : ROp) with row := 5, i := 0 } : ROp)) := Lib.hid (by rw [← HPOST.out, if_neg hf, if_pos hc])
      have HF : Hid (decide (({ x with row := 2 } : ROp).c ≤ ({ x with row := 2 } : ROp).tries + 1) = true) := Lib.hid (by simpa using hc)
      clear hf hc
      go_enter Try.func47, Try.ntmps47
      go_wp2_with fail
      have eS0 : W.cell? ⟨g, o, none⟩ = some (.int .u32 v0) := cv0
      have eS1 : W.cell? ⟨bx, 2, none⟩ = some (.int .i64 x.s) := e2
      have KEEP := Lib.hid (fun (V : World) (h : Chg [] W V) => (⟨h.keep eS0 (by simp), h.keep eS1 (by simp), Lib.hid h⟩ : (fun V : World => V.cell? ⟨g, o, none⟩ = some (.int .u32 v0) ∧ V.cell? ⟨bx, 2, none⟩ = some (.int .i64 x.s) ∧ Hid (Chg [] W V)) V))
      clear eS0 eS1 cv0 e2
      have hHeld : (fun V : World => V.cell? ⟨g, o, none⟩ = some (.int .u32 v0) ∧ V.cell? ⟨bx, 2, none⟩ = some (.int .i64 x.s) ∧ Hid (Chg [] W V)) (World.drew W) := KEEP.out _ (Chg.refl _ _).drew
      refine wp_region_plan (fun V : World => V.cell? ⟨g, o, none⟩ = some (.int .u32 v0) ∧ V.cell? ⟨bx, 2, none⟩ = some (.int .i64 x.s) ∧ Hid (Chg [] W V)) [(0, true, some 6), (1, true, some 7), (2, true, some 8), (3, true, some 9), (4, true, some 10), (5, true, some 11), (6, true, some 12), (7, true, some 13), (8, true, some 14), (9, true, some 15), (10, true, some 4)] (by kernel_rfl) (by kernel_rfl) (by kernel_rfl) (by kernel_rfl) (fun d c a v w h => by cases d <;> exact h) hHeld ?_
      repeat (first
        | (refine planWp_read (v := ?_) rfl rfl ?_ ?_ ?_; rotate_left; (focus rfl); (focus (intro u hSw; (try dsimp only at hSw); go_simp; (try with_reducible rfl))); (try simp only [Act.put, List.setIfInBounds_toArray, List.set_cons_zero, List.set_cons_succ]))
        | (refine planWp_skip rfl rfl ?_ ?_; (focus rfl); (try simp only [Act.put, List.setIfInBounds_toArray, List.set_cons_zero, List.set_cons_succ]))
        | (refine planWp_leave rfl rfl ?_ hHeld ?_; (focus rfl); (try simp only [Act.put, List.setIfInBounds_toArray, List.set_cons_zero, List.set_cons_succ]))
        | (refine planWp_do rfl rfl ?_ (fun K hK => ?_); (focus rfl); go_simp; (try go_wp2_with fail); refine hK.out _ _ ?_ (fun hHeld2 => ?_); (focus (exact KEEP.out _ (Chg.trans hHeld.2.2.out HCX.out))); clear hK K hHeld; have hHeld := hHeld2; clear hHeld2; (try simp only [Act.put, List.setIfInBounds_toArray, List.set_cons_zero, List.set_cons_succ])))
      refine planWp_nil ?_
      have HR9 := Lib.hid hHeld.2.2.out
      clear hHeld KEEP
      refine then_gen (R := fun V => Hid (Chg [] W V)) HR9 ?_
      clear HR9
      rintro wf HR9
      have HBF : Hid (Blk wf bx ({ x with row := 2 } : ROp).cells 45) := Lib.hid (HB.out.keep HR9.out (by simp))
      have e11 : wf.cell? ⟨bx, 11, none⟩ = some (.int .i64 2) := HBF.out.cell rfl
      have e16 : wf.cell? ⟨bx, 16, none⟩ = some (.int .u32 x.a) := HBF.out.cell rfl
      have e10 : wf.cell? ⟨bx, 10, none⟩ = some (.int .i64 (rN : Int)) := HRD.out _ (HBF.out.cell rfl)
      go_wp2_with (first | (go_at_call 73; refine (fail_litC bx ({ x with row := 2 } : ROp) _ HF.out HT.out _ HBF.out).mono ?_; rintro e W6 ⟨rfl, hr6, hc6⟩; have HR6 := Lib.hid hr6; have HC6 := Lib.hid hc6; clear hr6 hc6) | (go_at_call 68; refine (to_any bx _ 5 _ HR6.out).mono ?_; rintro e W7 ⟨rfl, hr7, hc7⟩; have HR7 := Lib.hid hr7; have HC7 := Lib.hid hc7; clear hr7 hc7))
      all_goals (first | go_end0 | refine bodyPost_ret (results_none rfl _ _ _) rfl ?_)
      all_goals exact ⟨rfl, by rw [HP.out]; exact HR7.out, LT.keep (LT.keep (LT.keep HL.out HR9.out (by simp)) HC6.out (by simp; exact hne1b)) HC7.out (by simp; exact hne1b), ((HR9.out.mono (by simp)).trans HC6.out).trans HC7.out⟩
    · have HP : Hid (yy = ({ ({ x with row := 2 } : ROp) with tries := x.tries + 1, rcd := .slice none 0 0, row := 0, i := 0 } : ROp)) := Lib.hid (by rw [← HPOST.out, if_neg hf, if_neg hc])
      have HF : Hid (decide (({ x with row := 2 } : ROp).c ≤ ({ x with row := 2 } : ROp).tries + 1) = false) := Lib.hid (by simpa using hc)
      clear hf hc
      go_enter Try.func47, Try.ntmps47
      go_wp2_with fail
      have eS0 : W.cell? ⟨g, o, none⟩ = some (.int .u32 v0) := cv0
      have eS1 : W.cell? ⟨bx, 2, none⟩ = some (.int .i64 x.s) := e2
      have KEEP := Lib.hid (fun (V : World) (h : Chg [] W V) => (⟨h.keep eS0 (by simp), h.keep eS1 (by simp), Lib.hid h⟩ : (fun V : World => V.cell? ⟨g, o, none⟩ = some (.int .u32 v0) ∧ V.cell? ⟨bx, 2, none⟩ = some (.int .i64 x.s) ∧ Hid (Chg [] W V)) V))
      clear eS0 eS1 cv0 e2
      have hHeld : (fun V : World => V.cell? ⟨g, o, none⟩ = some (.int .u32 v0) ∧ V.cell? ⟨bx, 2, none⟩ = some (.int .i64 x.s) ∧ Hid (Chg [] W V)) (World.drew W) := KEEP.out _ (Chg.refl _ _).drew
      refine wp_region_plan (fun V : World => V.cell? ⟨g, o, none⟩ = some (.int .u32 v0) ∧ V.cell? ⟨bx, 2, none⟩ = some (.int .i64 x.s) ∧ Hid (Chg [] W V)) [(0, true, some 6), (1, true, some 7), (2, true, some 8), (3, true, some 9), (4, true, some 10), (5, true, some 11), (6, true, some 12), (7, true, some 13), (8, true, some 14), (9, true, some 15), (10, true, some 4)] (by kernel_rfl) (by kernel_rfl) (by kernel_rfl) (by kernel_rfl) (fun d c a v w h => by cases d <;> exact h) hHeld ?_
      repeat (first
        | (refine planWp_read (v := ?_) rfl rfl ?_ ?_ ?_; rotate_left; (focus rfl); (focus (intro u hSw; (try dsimp only at hSw); go_simp; (try with_reducible rfl))); (try simp only [Act.put, List.setIfInBounds_toArray, List.set_cons_zero, List.set_cons_succ]))
        | (refine planWp_skip rfl rfl ?_ ?_; (focus rfl); (try simp only [Act.put, List.setIfInBounds_toArray, List.set_cons_zero, List.set_cons_succ]))
        | (refine planWp_leave rfl rfl ?_ hHeld ?_; (focus rfl); (try simp only [Act.put, List.setIfInBounds_toArray, List.set_cons_zero, List.set_cons_succ]))
        | (refine planWp_do rfl rfl ?_ (fun K hK => ?_); (focus rfl); go_simp; (try go_wp2_with fail); refine hK.out _ _ ?_ (fun hHeld2 => ?_); (focus (exact KEEP.out _ (Chg.trans hHeld.2.2.out HCX.out))); clear hK K hHeld; have hHeld := hHeld2; clear hHeld2; (try simp only [Act.put, List.setIfInBounds_toArray, List.set_cons_zero, List.set_cons_succ])))
      refine planWp_nil ?_
      have HR9 := Lib.hid hHeld.2.2.out
      clear hHeld KEEP
      refine then_gen (R := fun V => Hid (Chg [] W V)) HR9 ?_
      clear HR9
      rintro wf HR9
      have HBF : Hid (Blk wf bx ({ x with row := 2 } : ROp).cells 45) := Lib.hid (HB.out.keep HR9.out (by simp))
      have e11 : wf.cell? ⟨bx, 11, none⟩ = some (.int .i64 2) := HBF.out.cell rfl
      have e16 : wf.cell? ⟨bx, 16, none⟩ = some (.int .u32 x.a) := HBF.out.cell rfl
      have e10 : wf.cell? ⟨bx, 10, none⟩ = some (.int .i64 (rN : Int)) := HRD.out _ (HBF.out.cell rfl)
      go_wp2_with (go_at_call 73; refine (fail_litC bx ({ x with row := 2 } : ROp) _ HF.out HT.out _ HBF.out).mono ?_; rintro e W6 ⟨rfl, hr6, hc6⟩; have HR6 := Lib.hid hr6; have HC6 := Lib.hid hc6; clear hr6 hc6)
      all_goals (first | go_end0 | refine bodyPost_ret (results_none rfl _ _ _) rfl ?_)
      all_goals exact ⟨rfl, by rw [HP.out]; exact HR6.out, LT.keep (LT.keep HL.out HR9.out (by simp)) HC6.out (by simp; exact hne1b), (HR9.out.mono (by simp)).trans HC6.out⟩
set_option maxHeartbeats 8000000 in
theorem cabR_3 (B bx g o m cp iN rn rcap rN : Nat) (x : ROp) (rp : Option Addr) (ws recs : List Int) (at_ : Nat) (W : World) (h : RAt W bx ({ x with row := 3, i := (iN : Int), rcd := .slice rp rn rcap } : ROp)) (hl : LT tn W g ws) (hwf : ∀ z ∈ ws, 0 ≤ z ∧ z ≤ 4294967295) (hop : x.op ≠ writesI x.k) (hrl : x.rl ≤ 100) (hw : 1 ≤ x.w ∧ x.w ≤ 8) (hi : iN ≤ 100)
    (hrn : recs.length = rn) (hrn2 : rn ≤ 1000) (hs : 1 ≤ x.s ∧ x.s ≤ 16) (hrd : x.reader = (rN : Int)) (hrb : rN ≤ 100) (hm : 1 + rN < m) (hsl : 0 ≤ x.a ∧ x.a ≤ 4294967295) (hat : headI x.k x.rl + x.a * x.w + iN = (at_ : Int)) (ham : at_ < m) (hmc : m ≤ cp) (hom : o + m ≤ ws.length)
    (hB : B ≤ W.heap.size) (hown : W.ownsRow B 22 1 (.slice rp rn rcap) rn (recs.map (Value.int .u32))) (hne1 : bx ≠ g) (hne2 : ∀ y, (Value.slice rp rn rcap).ownBlock = some y → y ≠ bx ∧ y ≠ g) :
    Calls Try.prog 47 #[.pointer (some ⟨bx, 0, none⟩), .slice (some ⟨g, o, none⟩) m cp] W fun e W' => ∃ v, e = .returned (.tuple #[]) ∧
      RAt W' bx (nextR { x with row := 3 } iN (4) v) ∧ LT tn W' g ws ∧ W'.ownsRow B 22 1 v (rn + 1) ((recs ++ [ws.getD (o + at_) 0]).map (Value.int .u32)) ∧ (∀ y, v.ownBlock = some y → (Value.slice rp rn rcap).ownBlock = some y ∨ W.heap.size ≤ y) ∧ Chg (bx :: (Value.slice rp rn rcap).ownBlock.toList) W W' := by
  have HB : Hid (Blk W bx ({ x with row := 3, i := (iN : Int), rcd := .slice rp rn rcap } : ROp).cells 45) := Lib.hid h
  have HL := Lib.hid hl
  have hm00 : 0 < m := by omega
  have hm00I : (0 : Int) < (m : Int) := by omega
  have hne1b : ¬ g = bx := fun hh => hne1 hh.symm
  have kr : IntKind.i64.wrap (1 + (rN : Int)) = ((1 + rN : Nat) : Int) := by rw [IntKind.wrap_i64]; omega
  have hr1 : 1 + rN < m := by omega
  have hr2 : ((1 + rN : Nat) : Int) < (m : Int) := by omega
  have hr3 : (1 : Int) + (rN : Int) < (m : Int) := by omega
  have HWORD := Lib.hid (fun (V : World) (hV : Chg [] W V) => word_read B bx g ({ x with row := 3 } : ROp) x.a (4) o m cp iN rn rcap at_ rp ws recs V (Blk.keep HB.out hV (by simp)) (LT.keep hl hV (by simp)) hop hrl hw hi hrn hrn2 hsl hat ham hmc hom (Nat.le_trans hB hV.size) (kit.own_chg hown hV (by simp)) hne1 hne2)
  have hjv0 : o + 0 < ws.length := by omega
  have cv0 : W.cell? ⟨g, o, none⟩ = some (.int .u32 (ws.getD (o + 0) 0)) := LT.word HL.out (o + 0) hjv0
  have bv0 : 0 ≤ ws.getD (o + 0) 0 ∧ ws.getD (o + 0) 0 ≤ 4294967295 := hwf _ (by rw [List.getD_eq_getElem?_getD, List.getElem?_eq_getElem hjv0]; exact List.getElem_mem hjv0)
  obtain ⟨v0, hv0⟩ : ∃ v0, ws.getD (o + 0) 0 = v0 := ⟨_, rfl⟩
  rw [hv0] at cv0 bv0
  clear hv0
  have k1 : IntKind.u32.wrap x.s = x.s := by rw [IntKind.wrap_u32]; omega
  have hs0 : x.s ≠ 0 := by omega
  have hs1 : (x.s == 0) = false := by simp; omega
  have kt : Int.tmod v0 x.s = v0 % x.s := Int.tmod_eq_emod_of_nonneg bv0.1
  have q1 := Int.emod_lt_of_pos v0 (show 0 < x.s by omega)
  have q2 := Int.emod_nonneg v0 hs0
  obtain ⟨q, hq⟩ : ∃ q, v0 % x.s = q := ⟨_, rfl⟩
  rw [hq] at kt q1 q2
  have kw : IntKind.u32.wrap q = q := by rw [IntKind.wrap_u32]; omega
  have HRD : Hid (∀ (R : Option Value), R = some (.int .i64 x.reader) → R = some (.int .i64 (rN : Int))) := Lib.hid (fun R hR => by rw [hR, hrd])
  have e2 : W.cell? ⟨bx, 2, none⟩ = some (.int .i64 x.s) := HB.out.cell rfl
  clear h hl hwf hom hjv0 hq hrd hrb hm hop hrl hat hown hrn hrn2 hB hne2 hsl
  go_enter Try.func47, Try.ntmps47
  go_wp2_with fail
  have eS0 : W.cell? ⟨g, o, none⟩ = some (.int .u32 v0) := cv0
  have eS1 : W.cell? ⟨bx, 2, none⟩ = some (.int .i64 x.s) := e2
  have KEEP := Lib.hid (fun (V : World) (h : Chg [] W V) => (⟨h.keep eS0 (by simp), h.keep eS1 (by simp), Lib.hid h⟩ : (fun V : World => V.cell? ⟨g, o, none⟩ = some (.int .u32 v0) ∧ V.cell? ⟨bx, 2, none⟩ = some (.int .i64 x.s) ∧ Hid (Chg [] W V)) V))
  clear eS0 eS1 cv0 e2
  have hHeld : (fun V : World => V.cell? ⟨g, o, none⟩ = some (.int .u32 v0) ∧ V.cell? ⟨bx, 2, none⟩ = some (.int .i64 x.s) ∧ Hid (Chg [] W V)) (World.drew W) := KEEP.out _ (Chg.refl _ _).drew
  refine wp_region_plan (fun V : World => V.cell? ⟨g, o, none⟩ = some (.int .u32 v0) ∧ V.cell? ⟨bx, 2, none⟩ = some (.int .i64 x.s) ∧ Hid (Chg [] W V)) [(0, true, some 6), (1, true, some 7), (2, true, some 8), (3, true, some 9), (4, true, some 10), (5, true, some 11), (6, true, some 12), (7, true, some 13), (8, true, some 14), (9, true, some 15), (10, true, some 4)] (by kernel_rfl) (by kernel_rfl) (by kernel_rfl) (by kernel_rfl) (fun d c a v w h => by cases d <;> exact h) hHeld ?_
  repeat (first
    | (refine planWp_read (v := ?_) rfl rfl ?_ ?_ ?_; rotate_left; (focus rfl); (focus (intro u hSw; (try dsimp only at hSw); go_simp; (try with_reducible rfl))); (try simp only [Act.put, List.setIfInBounds_toArray, List.set_cons_zero, List.set_cons_succ]))
    | (refine planWp_skip rfl rfl ?_ ?_; (focus rfl); (try simp only [Act.put, List.setIfInBounds_toArray, List.set_cons_zero, List.set_cons_succ]))
    | (refine planWp_leave rfl rfl ?_ hHeld ?_; (focus rfl); (try simp only [Act.put, List.setIfInBounds_toArray, List.set_cons_zero, List.set_cons_succ]))
    | (refine planWp_do rfl rfl ?_ (fun K hK => ?_); (focus rfl); go_simp; (try go_wp2_with fail); refine hK.out _ _ ?_ (fun hHeld2 => ?_); (focus (exact KEEP.out _ (Chg.trans hHeld.2.2.out HCX.out))); clear hK K hHeld; have hHeld := hHeld2; clear hHeld2; (try simp only [Act.put, List.setIfInBounds_toArray, List.set_cons_zero, List.set_cons_succ])))
  refine planWp_nil ?_
  have HR9 := Lib.hid hHeld.2.2.out
  clear hHeld KEEP
  refine then_gen (R := fun V => Hid (Chg [] W V)) HR9 ?_
  clear HR9
  rintro wf HR9
  have HBF : Hid (Blk wf bx ({ x with row := 3, i := (iN : Int), rcd := .slice rp rn rcap } : ROp).cells 45) := Lib.hid (HB.out.keep HR9.out (by simp))
  have e11 : wf.cell? ⟨bx, 11, none⟩ = some (.int .i64 3) := HBF.out.cell rfl
  have e16 : wf.cell? ⟨bx, 16, none⟩ = some (.int .u32 x.a) := HBF.out.cell rfl
  have e10 : wf.cell? ⟨bx, 10, none⟩ = some (.int .i64 (rN : Int)) := HRD.out _ (HBF.out.cell rfl)
  go_wp2_with (go_at_call 69; refine (HWORD.out _ HR9.out).mono ?_; rintro e W7 ⟨v7, rfl, hr7, hl7, ho7, hv7, hc7⟩; have HR7 := Lib.hid hr7; have HL7 := Lib.hid hl7; have HO7 := Lib.hid ho7; have HV7 := Lib.hid hv7; have HC7 := Lib.hid hc7; clear hr7 hl7 ho7 hv7 hc7)
  all_goals (first | go_end0 | refine bodyPost_ret (results_none rfl _ _ _) rfl ?_)
  all_goals exact ⟨v7, rfl, HR7.out, HL7.out, HO7.out, fun y hy => (HV7.out y hy).imp id (fun hh => Nat.le_trans HR9.out.size hh), (HR9.out.mono (by simp)).trans HC7.out⟩
set_option maxHeartbeats 8000000 in
theorem cabR_4 (bx g o m cp rN : Nat) (x : ROp) (ws : List Int) (W : World) (h : RAt W bx ({ x with row := 4 } : ROp)) (hl : LT tn W g ws) (hwf : ∀ z ∈ ws, 0 ≤ z ∧ z ≤ 4294967295) (hm : 1 + rN < m) (hmc : m ≤ cp) (hom : o + m ≤ ws.length) (hne1 : bx ≠ g) (hs : 1 ≤ x.s ∧ x.s ≤ 16) (hrd : x.reader = (rN : Int)) (hrb : rN ≤ 100) :
    Calls Try.prog 47 #[.pointer (some ⟨bx, 0, none⟩), .slice (some ⟨g, o, none⟩) m cp] W fun e W' => e = .returned (.tuple #[]) ∧ RAt W' bx (({ x with row := 4 } : ROp).ended 0) ∧ LT tn W' g (ws.set (o + (1 + rN)) 0) ∧ Chg [bx, g] W W' := by
  have HB : Hid (Blk W bx ({ x with row := 4 } : ROp).cells 45) := Lib.hid h
  have HL := Lib.hid hl
  have hm00 : 0 < m := by omega
  have hm00I : (0 : Int) < (m : Int) := by omega
  have hne1b : ¬ g = bx := fun hh => hne1 hh.symm
  have kr : IntKind.i64.wrap (1 + (rN : Int)) = ((1 + rN : Nat) : Int) := by rw [IntKind.wrap_i64]; omega
  have hr1 : 1 + rN < m := by omega
  have hr2 : ((1 + rN : Nat) : Int) < (m : Int) := by omega
  have hr3 : (1 : Int) + (rN : Int) < (m : Int) := by omega
  have hjv0 : o + 0 < ws.length := by omega
  have cv0 : W.cell? ⟨g, o, none⟩ = some (.int .u32 (ws.getD (o + 0) 0)) := LT.word HL.out (o + 0) hjv0
  have bv0 : 0 ≤ ws.getD (o + 0) 0 ∧ ws.getD (o + 0) 0 ≤ 4294967295 := hwf _ (by rw [List.getD_eq_getElem?_getD, List.getElem?_eq_getElem hjv0]; exact List.getElem_mem hjv0)
  generalize ws.getD (o + 0) 0 = v0 at *
  have k1 : IntKind.u32.wrap x.s = x.s := by rw [IntKind.wrap_u32]; omega
  have hs0 : x.s ≠ 0 := by omega
  have hs1 : (x.s == 0) = false := by simp; omega
  have kt : Int.tmod v0 x.s = v0 % x.s := Int.tmod_eq_emod_of_nonneg bv0.1
  have q1 := Int.emod_lt_of_pos v0 (show 0 < x.s by omega)
  have q2 := Int.emod_nonneg v0 hs0
  obtain ⟨q, hq⟩ : ∃ q, v0 % x.s = q := ⟨_, rfl⟩
  rw [hq] at kt q1 q2
  have kw : IntKind.u32.wrap q = q := by rw [IntKind.wrap_u32]; omega
  have HRD : Hid (∀ (R : Option Value), R = some (.int .i64 x.reader) → R = some (.int .i64 (rN : Int))) := Lib.hid (fun R hR => by rw [hR, hrd])
  have e2 : W.cell? ⟨bx, 2, none⟩ = some (.int .i64 x.s) := HB.out.cell rfl
  have HJR : Hid (o + (1 + rN) < ws.length) := Lib.hid (by omega)
  clear h hl hwf hom hjv0 hq hrd hrb hm
  go_enter Try.func47, Try.ntmps47
  go_wp2_with fail
  have eS0 : W.cell? ⟨g, o, none⟩ = some (.int .u32 v0) := cv0
  have eS1 : W.cell? ⟨bx, 2, none⟩ = some (.int .i64 x.s) := e2
  have KEEP := Lib.hid (fun (V : World) (h : Chg [] W V) => (⟨h.keep eS0 (by simp), h.keep eS1 (by simp), Lib.hid h⟩ : (fun V : World => V.cell? ⟨g, o, none⟩ = some (.int .u32 v0) ∧ V.cell? ⟨bx, 2, none⟩ = some (.int .i64 x.s) ∧ Hid (Chg [] W V)) V))
  clear eS0 eS1 cv0 e2
  have hHeld : (fun V : World => V.cell? ⟨g, o, none⟩ = some (.int .u32 v0) ∧ V.cell? ⟨bx, 2, none⟩ = some (.int .i64 x.s) ∧ Hid (Chg [] W V)) (World.drew W) := KEEP.out _ (Chg.refl _ _).drew
  refine wp_region_plan (fun V : World => V.cell? ⟨g, o, none⟩ = some (.int .u32 v0) ∧ V.cell? ⟨bx, 2, none⟩ = some (.int .i64 x.s) ∧ Hid (Chg [] W V)) [(0, true, some 6), (1, true, some 7), (2, true, some 8), (3, true, some 9), (4, true, some 10), (5, true, some 11), (6, true, some 12), (7, true, some 13), (8, true, some 14), (9, true, some 15), (10, true, some 4)] (by kernel_rfl) (by kernel_rfl) (by kernel_rfl) (by kernel_rfl) (fun d c a v w h => by cases d <;> exact h) hHeld ?_
  repeat (first
    | (refine planWp_read (v := ?_) rfl rfl ?_ ?_ ?_; rotate_left; (focus rfl); (focus (intro u hSw; (try dsimp only at hSw); go_simp; (try with_reducible rfl))); (try simp only [Act.put, List.setIfInBounds_toArray, List.set_cons_zero, List.set_cons_succ]))
    | (refine planWp_skip rfl rfl ?_ ?_; (focus rfl); (try simp only [Act.put, List.setIfInBounds_toArray, List.set_cons_zero, List.set_cons_succ]))
    | (refine planWp_leave rfl rfl ?_ hHeld ?_; (focus rfl); (try simp only [Act.put, List.setIfInBounds_toArray, List.set_cons_zero, List.set_cons_succ]))
    | (refine planWp_do rfl rfl ?_ (fun K hK => ?_); (focus rfl); go_simp; (try go_wp2_with fail); refine hK.out _ _ ?_ (fun hHeld2 => ?_); (focus (exact KEEP.out _ (Chg.trans hHeld.2.2.out HCX.out))); clear hK K hHeld; have hHeld := hHeld2; clear hHeld2; (try simp only [Act.put, List.setIfInBounds_toArray, List.set_cons_zero, List.set_cons_succ])))
  refine planWp_nil ?_
  have HR9 := Lib.hid hHeld.2.2.out
  clear hHeld KEEP
  refine then_gen (R := fun V => Hid (Chg [] W V)) HR9 ?_
  clear HR9
  rintro wf HR9
  have HBF : Hid (Blk wf bx ({ x with row := 4 } : ROp).cells 45) := Lib.hid (HB.out.keep HR9.out (by simp))
  have e11 : wf.cell? ⟨bx, 11, none⟩ = some (.int .i64 4) := HBF.out.cell rfl
  have e16 : wf.cell? ⟨bx, 16, none⟩ = some (.int .u32 x.a) := HBF.out.cell rfl
  have e10 : wf.cell? ⟨bx, 10, none⟩ = some (.int .i64 (rN : Int)) := HRD.out _ (HBF.out.cell rfl)
  have gw : wf.cell? ⟨g, o + (1 + rN), none⟩ = some (.int .u32 (ws.getD (o + (1 + rN)) 0)) := LT.word (LT.keep HL.out HR9.out (by simp)) _ HJR.out
  have gf : wf.frozen? ⟨g, o + (1 + rN), none⟩ = false := (LT.keep HL.out HR9.out (by simp)).free _
  go_wp2_with (go_at_call 70; refine (end_any bx ({ x with row := 4 } : ROp) 0 _ (Blk.set_ne HBF.out hne1 _ _ _)).mono ?_; rintro e W7 ⟨rfl, hr7, hc7⟩; have HR7 := Lib.hid hr7; have HC7 := Lib.hid hc7; clear hr7 hc7)
  all_goals (first | go_end0 | refine bodyPost_ret (results_none rfl _ _ _) rfl ?_)
  all_goals exact ⟨rfl, HR7.out, LT.keep (LT.put (LT.keep HL.out HR9.out (by simp)) (o + (1 + rN)) 0 HJR.out) HC7.out (by simp; exact hne1b), ((HR9.out.mono (by simp)).setCell (.inl (by simp)) _).trans (HC7.out.mono (by simp))⟩
set_option maxHeartbeats 8000000 in
theorem cabR_5 (bx g o m cp rN : Nat) (x : ROp) (ws : List Int) (W : World) (h : RAt W bx ({ x with row := 5 } : ROp)) (hl : LT tn W g ws) (hwf : ∀ z ∈ ws, 0 ≤ z ∧ z ≤ 4294967295) (hm : 1 + rN < m) (hmc : m ≤ cp) (hom : o + m ≤ ws.length) (hne1 : bx ≠ g) (hs : 1 ≤ x.s ∧ x.s ≤ 16) (hrd : x.reader = (rN : Int)) (hrb : rN ≤ 100) :
    Calls Try.prog 47 #[.pointer (some ⟨bx, 0, none⟩), .slice (some ⟨g, o, none⟩) m cp] W fun e W' => e = .returned (.tuple #[]) ∧ RAt W' bx (({ x with row := 5 } : ROp).ended 1) ∧ LT tn W' g (ws.set (o + (1 + rN)) 0) ∧ Chg [bx, g] W W' := by
  have HB : Hid (Blk W bx ({ x with row := 5 } : ROp).cells 45) := Lib.hid h
  have HL := Lib.hid hl
  have hm00 : 0 < m := by omega
  have hm00I : (0 : Int) < (m : Int) := by omega
  have hne1b : ¬ g = bx := fun hh => hne1 hh.symm
  have kr : IntKind.i64.wrap (1 + (rN : Int)) = ((1 + rN : Nat) : Int) := by rw [IntKind.wrap_i64]; omega
  have hr1 : 1 + rN < m := by omega
  have hr2 : ((1 + rN : Nat) : Int) < (m : Int) := by omega
  have hr3 : (1 : Int) + (rN : Int) < (m : Int) := by omega
  have hjv0 : o + 0 < ws.length := by omega
  have cv0 : W.cell? ⟨g, o, none⟩ = some (.int .u32 (ws.getD (o + 0) 0)) := LT.word HL.out (o + 0) hjv0
  have bv0 : 0 ≤ ws.getD (o + 0) 0 ∧ ws.getD (o + 0) 0 ≤ 4294967295 := hwf _ (by rw [List.getD_eq_getElem?_getD, List.getElem?_eq_getElem hjv0]; exact List.getElem_mem hjv0)
  generalize ws.getD (o + 0) 0 = v0 at *
  have k1 : IntKind.u32.wrap x.s = x.s := by rw [IntKind.wrap_u32]; omega
  have hs0 : x.s ≠ 0 := by omega
  have hs1 : (x.s == 0) = false := by simp; omega
  have kt : Int.tmod v0 x.s = v0 % x.s := Int.tmod_eq_emod_of_nonneg bv0.1
  have q1 := Int.emod_lt_of_pos v0 (show 0 < x.s by omega)
  have q2 := Int.emod_nonneg v0 hs0
  obtain ⟨q, hq⟩ : ∃ q, v0 % x.s = q := ⟨_, rfl⟩
  rw [hq] at kt q1 q2
  have kw : IntKind.u32.wrap q = q := by rw [IntKind.wrap_u32]; omega
  have HRD : Hid (∀ (R : Option Value), R = some (.int .i64 x.reader) → R = some (.int .i64 (rN : Int))) := Lib.hid (fun R hR => by rw [hR, hrd])
  have e2 : W.cell? ⟨bx, 2, none⟩ = some (.int .i64 x.s) := HB.out.cell rfl
  have HJR : Hid (o + (1 + rN) < ws.length) := Lib.hid (by omega)
  clear h hl hwf hom hjv0 hq hrd hrb hm
  go_enter Try.func47, Try.ntmps47
  go_wp2_with fail
  have eS0 : W.cell? ⟨g, o, none⟩ = some (.int .u32 v0) := cv0
  have eS1 : W.cell? ⟨bx, 2, none⟩ = some (.int .i64 x.s) := e2
  have KEEP := Lib.hid (fun (V : World) (h : Chg [] W V) => (⟨h.keep eS0 (by simp), h.keep eS1 (by simp), Lib.hid h⟩ : (fun V : World => V.cell? ⟨g, o, none⟩ = some (.int .u32 v0) ∧ V.cell? ⟨bx, 2, none⟩ = some (.int .i64 x.s) ∧ Hid (Chg [] W V)) V))
  clear eS0 eS1 cv0 e2
  have hHeld : (fun V : World => V.cell? ⟨g, o, none⟩ = some (.int .u32 v0) ∧ V.cell? ⟨bx, 2, none⟩ = some (.int .i64 x.s) ∧ Hid (Chg [] W V)) (World.drew W) := KEEP.out _ (Chg.refl _ _).drew
  refine wp_region_plan (fun V : World => V.cell? ⟨g, o, none⟩ = some (.int .u32 v0) ∧ V.cell? ⟨bx, 2, none⟩ = some (.int .i64 x.s) ∧ Hid (Chg [] W V)) [(0, true, some 6), (1, true, some 7), (2, true, some 8), (3, true, some 9), (4, true, some 10), (5, true, some 11), (6, true, some 12), (7, true, some 13), (8, true, some 14), (9, true, some 15), (10, true, some 4)] (by kernel_rfl) (by kernel_rfl) (by kernel_rfl) (by kernel_rfl) (fun d c a v w h => by cases d <;> exact h) hHeld ?_
  repeat (first
    | (refine planWp_read (v := ?_) rfl rfl ?_ ?_ ?_; rotate_left; (focus rfl); (focus (intro u hSw; (try dsimp only at hSw); go_simp; (try with_reducible rfl))); (try simp only [Act.put, List.setIfInBounds_toArray, List.set_cons_zero, List.set_cons_succ]))
    | (refine planWp_skip rfl rfl ?_ ?_; (focus rfl); (try simp only [Act.put, List.setIfInBounds_toArray, List.set_cons_zero, List.set_cons_succ]))
    | (refine planWp_leave rfl rfl ?_ hHeld ?_; (focus rfl); (try simp only [Act.put, List.setIfInBounds_toArray, List.set_cons_zero, List.set_cons_succ]))
    | (refine planWp_do rfl rfl ?_ (fun K hK => ?_); (focus rfl); go_simp; (try go_wp2_with fail); refine hK.out _ _ ?_ (fun hHeld2 => ?_); (focus (exact KEEP.out _ (Chg.trans hHeld.2.2.out HCX.out))); clear hK K hHeld; have hHeld := hHeld2; clear hHeld2; (try simp only [Act.put, List.setIfInBounds_toArray, List.set_cons_zero, List.set_cons_succ])))
  refine planWp_nil ?_
  have HR9 := Lib.hid hHeld.2.2.out
  clear hHeld KEEP
  refine then_gen (R := fun V => Hid (Chg [] W V)) HR9 ?_
  clear HR9
  rintro wf HR9
  have HBF : Hid (Blk wf bx ({ x with row := 5 } : ROp).cells 45) := Lib.hid (HB.out.keep HR9.out (by simp))
  have e11 : wf.cell? ⟨bx, 11, none⟩ = some (.int .i64 5) := HBF.out.cell rfl
  have e16 : wf.cell? ⟨bx, 16, none⟩ = some (.int .u32 x.a) := HBF.out.cell rfl
  have e10 : wf.cell? ⟨bx, 10, none⟩ = some (.int .i64 (rN : Int)) := HRD.out _ (HBF.out.cell rfl)
  have gw : wf.cell? ⟨g, o + (1 + rN), none⟩ = some (.int .u32 (ws.getD (o + (1 + rN)) 0)) := LT.word (LT.keep HL.out HR9.out (by simp)) _ HJR.out
  have gf : wf.frozen? ⟨g, o + (1 + rN), none⟩ = false := (LT.keep HL.out HR9.out (by simp)).free _
  go_wp2_with (go_at_call 70; refine (end_any bx ({ x with row := 5 } : ROp) 1 _ (Blk.set_ne HBF.out hne1 _ _ _)).mono ?_; rintro e W7 ⟨rfl, hr7, hc7⟩; have HR7 := Lib.hid hr7; have HC7 := Lib.hid hc7; clear hr7 hc7)
  all_goals (first | go_end0 | refine bodyPost_ret (results_none rfl _ _ _) rfl ?_)
  all_goals exact ⟨rfl, HR7.out, LT.keep (LT.put (LT.keep HL.out HR9.out (by simp)) (o + (1 + rN)) 0 HJR.out) HC7.out (by simp; exact hne1b), ((HR9.out.mono (by simp)).setCell (.inl (by simp)) _).trans (HC7.out.mono (by simp))⟩
end Go.Proofs.Ytjplamoofkcojaa.ref
