/- The reference's operation: the rows of the kind of a slot for each reader, and two. -/
import Derived.Test.YtjplamoofkcojaaRefU
namespace Go.Proofs.Ytjplamoofkcojaa.ref
open Go Go.RowKit Go.Proofs.Ytjplamoofkcojaa.kit Go.Proofs.Ytjplamoofkcojaa.obj Go.Proofs.Ytjplamoofkcojaa.rop
set_option linter.unusedVariables false
set_option linter.unusedSimpArgs false
set_option maxRecDepth 20000
variable {tn : Nat}
set_option maxHeartbeats 8000000 in
theorem chenW_0 (bx g o m cp : Nat) (x : ROp) (ws : List Int) (W : World) (h : RAt W bx ({ x with row := 0 } : ROp)) (hl : LT tn W g ws) (hwf : ∀ z ∈ ws, 0 ≤ z ∧ z ≤ 4294967295) (hm : 1 ≤ m) (hmc : m ≤ cp) (hom : o + m ≤ ws.length) (hne1 : bx ≠ g) (hrl : x.rl ≤ 100) (hn : recordsI x.k x.s x.rl ≤ 16) :
    Calls Try.prog 41 #[.pointer (some ⟨bx, 0, none⟩), .slice (some ⟨g, o, none⟩) m cp] W fun e W' => e = .returned (.tuple #[]) ∧ RAt W' bx ({ ({ x with row := 0 } : ROp) with u := noteU (recordsI x.k x.s x.rl) x.u (ws.getD (o + 0) 0), row := 1, i := 0 } : ROp) ∧ LT tn W' g (ws) ∧ Chg [bx] W W' := by
  have HB : Hid (Blk W bx ({ x with row := 0 } : ROp).cells 45) := Lib.hid h
  have HL := Lib.hid hl
  have hm00 : 0 < m := by omega
  have hm00I : (0 : Int) < (m : Int) := by omega
  have hne1b : ¬ g = bx := fun hh => hne1 hh.symm
  have hjv0 : o + 0 < ws.length := by omega
  have cv0 : W.cell? ⟨g, o, none⟩ = some (.int .u32 (ws.getD (o + 0) 0)) := LT.word HL.out (o + 0) hjv0
  have bv0 : 0 ≤ ws.getD (o + 0) 0 ∧ ws.getD (o + 0) 0 ≤ 4294967295 := hwf _ (by rw [List.getD_eq_getElem?_getD, List.getElem?_eq_getElem hjv0]; exact List.getElem_mem hjv0)
  generalize ws.getD (o + 0) 0 = v0 at *
  have e11 : W.cell? ⟨bx, 11, none⟩ = some (.int .i64 0) := HB.out.cell rfl
  have e7 : W.cell? ⟨bx, 7, none⟩ = some (.slice x.ra x.rl x.rc) := HB.out.cell rfl
  have HNOTE := Lib.hid (note_any bx ({ x with row := 0 } : ROp) v0 W HB.out ⟨by omega, by omega⟩ hrl hn)
  clear h hl hwf hom hjv0 hrl hn
  go_enter Try.func41, Try.ntmps41
  go_wp2_with (first | (go_at_call 71; refine (HNOTE.out).mono ?_; rintro e W6 ⟨rfl, hr6, hc6⟩; have HR6 := Lib.hid hr6; have HC6 := Lib.hid hc6; clear hr6 hc6) | (go_at_call 68; refine (to_any bx _ 1 _ HR6.out).mono ?_; rintro e W7 ⟨rfl, hr7, hc7⟩; have HR7 := Lib.hid hr7; have HC7 := Lib.hid hc7; clear hr7 hc7))
  all_goals (first | go_end0 | refine bodyPost_ret (results_none rfl _ _ _) rfl ?_)
  all_goals exact ⟨rfl, HR7.out, LT.keep (LT.keep HL.out HC6.out (by simp; exact hne1b)) HC7.out (by simp; exact hne1b), HC6.out.trans HC7.out⟩
set_option maxHeartbeats 16000000 in
theorem chenW_1a (bx g o m cp iN : Nat) (x : ROp) (ws : List Int) (W : World) (h : RAt W bx ({ x with row := 1, i := (iN : Int) } : ROp)) (hl : LT tn W g ws) (hwf : ∀ z ∈ ws, 0 ≤ z ∧ z ≤ 4294967295) (hm : 1 + iN < m) (hmc : m ≤ cp) (hom : o + m ≤ ws.length) (hne1 : bx ≠ g) (hi : iN ≤ 100) (hrl : x.rl ≤ 100) (hn : recordsI x.k x.s x.rl ≤ 16) (hrl1 : iN + 1 ≠ x.rl) :
    Calls Try.prog 41 #[.pointer (some ⟨bx, 0, none⟩), .slice (some ⟨g, o, none⟩) m cp] W fun e W' => e = .returned (.tuple #[]) ∧ RAt W' bx ({ ({ x with row := 1, i := (iN : Int) } : ROp) with u := (noteU (recordsI x.k x.s x.rl) x.u (ws.getD (o + (1 + iN)) 0)), i := (iN : Int) + 1 } : ROp) ∧ LT tn W' g (ws) ∧ Chg [bx] W W' := by
  have HB : Hid (Blk W bx ({ x with row := 1, i := (iN : Int) } : ROp).cells 45) := Lib.hid h
  have HL := Lib.hid hl
  have hm00 : 0 < m := by omega
  have hm00I : (0 : Int) < (m : Int) := by omega
  have hne1b : ¬ g = bx := fun hh => hne1 hh.symm
  have hjv0 : o + (1 + iN) < ws.length := by omega
  have cv0 : W.cell? ⟨g, o + (1 + iN), none⟩ = some (.int .u32 (ws.getD (o + (1 + iN)) 0)) := LT.word HL.out (o + (1 + iN)) hjv0
  have bv0 : 0 ≤ ws.getD (o + (1 + iN)) 0 ∧ ws.getD (o + (1 + iN)) 0 ≤ 4294967295 := hwf _ (by rw [List.getD_eq_getElem?_getD, List.getElem?_eq_getElem hjv0]; exact List.getElem_mem hjv0)
  generalize ws.getD (o + (1 + iN)) 0 = v0 at *
  have kr : IntKind.i64.wrap (1 + (iN : Int)) = ((1 + iN : Nat) : Int) := by rw [IntKind.wrap_i64]; omega
  have hr2 : ((1 + iN : Nat) : Int) < (m : Int) := by omega
  have hr3 : (1 : Int) + (iN : Int) < (m : Int) := by omega
  have ki : IntKind.i64.wrap ((iN : Int) + 1) = (iN : Int) + 1 := by rw [IntKind.wrap_i64]; omega
  have hlb : ((iN : Int) + 1 == (x.rl : Int)) = false := by simp; omega
  have f12 : W.frozen? ⟨bx, 12, none⟩ = false := HB.out.free 12
  have HNOTE := Lib.hid (fun (V : World) (hV : Chg [] W V) => note_any bx ({ x with row := 1, i := (iN : Int) } : ROp) v0 V (Blk.keep HB.out hV (by simp)) ⟨by omega, by omega⟩ hrl hn)
  obtain ⟨U, hU⟩ : ∃ U, noteU (recordsI x.k x.s x.rl) x.u v0 = U := ⟨_, rfl⟩
  have HNOTE2 : Hid (∀ V, Chg [] W V → Calls Try.prog 71 #[.pointer (some ⟨bx, 0, none⟩), .int .u32 v0] V fun e W' => e = .returned (.tuple #[]) ∧ RAt W' bx ({ ({ x with row := 1, i := (iN : Int) } : ROp) with u := U } : ROp) ∧ Chg [bx] V W') := Lib.hid (fun V hV => by rw [← hU]; exact HNOTE.out V hV)
  clear HNOTE
  rw [hU]
  clear h hl hwf hom hjv0 hrl hn hm hrl1 hi hU
  have e11 : W.cell? ⟨bx, 11, none⟩ = some (.int .i64 1) := HB.out.cell rfl
  have e12 : W.cell? ⟨bx, 12, none⟩ = some (.int .i64 (iN : Int)) := HB.out.cell rfl
  have e7 : W.cell? ⟨bx, 7, none⟩ = some (.slice x.ra x.rl x.rc) := HB.out.cell rfl
  go_enter Try.func41, Try.ntmps41
  go_wp2_with (go_at_call 71; refine (HNOTE2.out _ (Chg.refl _ _)).mono ?_; rintro e W6 ⟨rfl, hr6, hc6⟩; have HR6 := Lib.hid hr6; have HC6 := Lib.hid hc6; have e12 : W6.cell? ⟨bx, 12, none⟩ = some (.int .i64 (iN : Int)) := HR6.out.cell rfl; have f12 := HR6.out.free 12; clear hr6 hc6)
  all_goals (first | go_end0 | refine bodyPost_ret (results_none rfl _ _ _) rfl ?_)
  all_goals exact ⟨rfl, (HR6.out.set 12 (.int .i64 ((iN : Int) + 1))), LT.keep HL.out (HC6.out.setCell (.inl (by simp)) _) (by simp; exact hne1b), (HC6.out.setCell (.inl (by simp)) _)⟩
set_option maxHeartbeats 16000000 in
theorem chenW_1b (bx g o m cp iN : Nat) (x : ROp) (ws : List Int) (W : World) (h : RAt W bx ({ x with row := 1, i := (iN : Int) } : ROp)) (hl : LT tn W g ws) (hwf : ∀ z ∈ ws, 0 ≤ z ∧ z ≤ 4294967295) (hm : 1 + iN < m) (hmc : m ≤ cp) (hom : o + m ≤ ws.length) (hne1 : bx ≠ g) (hi : iN ≤ 100) (hrl : x.rl ≤ 100) (hn : recordsI x.k x.s x.rl ≤ 16) (hrl1 : iN + 1 = x.rl) (f : Nat) (hf : f < 20) (hff : (noteU (recordsI x.k x.s x.rl) x.u (ws.getD (o + (1 + iN)) 0)) f = false) (hfl : ∀ j, j < f → (noteU (recordsI x.k x.s x.rl) x.u (ws.getD (o + (1 + iN)) 0)) j = true) :
    Calls Try.prog 41 #[.pointer (some ⟨bx, 0, none⟩), .slice (some ⟨g, o, none⟩) m cp] W fun e W' => e = .returned (.tuple #[]) ∧ RAt W' bx ({ ({ x with row := 1, i := (iN : Int) } : ROp) with u := (noteU (recordsI x.k x.s x.rl) x.u (ws.getD (o + (1 + iN)) 0)), b := (f : Int), row := 2, i := 0 } : ROp) ∧ LT tn W' g (ws) ∧ Chg [bx] W W' := by
  have HB : Hid (Blk W bx ({ x with row := 1, i := (iN : Int) } : ROp).cells 45) := Lib.hid h
  have HL := Lib.hid hl
  have hm00 : 0 < m := by omega
  have hm00I : (0 : Int) < (m : Int) := by omega
  have hne1b : ¬ g = bx := fun hh => hne1 hh.symm
  have hjv0 : o + (1 + iN) < ws.length := by omega
  have cv0 : W.cell? ⟨g, o + (1 + iN), none⟩ = some (.int .u32 (ws.getD (o + (1 + iN)) 0)) := LT.word HL.out (o + (1 + iN)) hjv0
  have bv0 : 0 ≤ ws.getD (o + (1 + iN)) 0 ∧ ws.getD (o + (1 + iN)) 0 ≤ 4294967295 := hwf _ (by rw [List.getD_eq_getElem?_getD, List.getElem?_eq_getElem hjv0]; exact List.getElem_mem hjv0)
  generalize ws.getD (o + (1 + iN)) 0 = v0 at *
  have kr : IntKind.i64.wrap (1 + (iN : Int)) = ((1 + iN : Nat) : Int) := by rw [IntKind.wrap_i64]; omega
  have hr2 : ((1 + iN : Nat) : Int) < (m : Int) := by omega
  have hr3 : (1 : Int) + (iN : Int) < (m : Int) := by omega
  have ki : IntKind.i64.wrap ((iN : Int) + 1) = (iN : Int) + 1 := by rw [IntKind.wrap_i64]; omega
  have hlb : ((iN : Int) + 1 == (x.rl : Int)) = true := by simp; omega
  have f12 : W.frozen? ⟨bx, 12, none⟩ = false := HB.out.free 12
  have HF := Lib.hid (show f < 20 from hf)
  have HNOTE := Lib.hid (fun (V : World) (hV : Chg [] W V) => note_any bx ({ x with row := 1, i := (iN : Int) } : ROp) v0 V (Blk.keep HB.out hV (by simp)) ⟨by omega, by omega⟩ hrl hn)
  have HFL := Lib.hid hfl
  have HFF := Lib.hid hff
  obtain ⟨U, hU⟩ : ∃ U, noteU (recordsI x.k x.s x.rl) x.u v0 = U := ⟨_, rfl⟩
  have HNOTE2 : Hid (∀ V, Chg [] W V → Calls Try.prog 71 #[.pointer (some ⟨bx, 0, none⟩), .int .u32 v0] V fun e W' => e = .returned (.tuple #[]) ∧ RAt W' bx ({ ({ x with row := 1, i := (iN : Int) } : ROp) with u := U } : ROp) ∧ Chg [bx] V W') := Lib.hid (fun V hV => by rw [← hU]; exact HNOTE.out V hV)
  clear HNOTE
  rw [hU] at HFL HFF
  rw [hU]
  clear h hl hwf hom hjv0 hrl hn hm hrl1 hi hU hff hfl hf
  have e11 : W.cell? ⟨bx, 11, none⟩ = some (.int .i64 1) := HB.out.cell rfl
  have e12 : W.cell? ⟨bx, 12, none⟩ = some (.int .i64 (iN : Int)) := HB.out.cell rfl
  have e7 : W.cell? ⟨bx, 7, none⟩ = some (.slice x.ra x.rl x.rc) := HB.out.cell rfl
  go_enter Try.func41, Try.ntmps41
  go_wp2_with (first | (go_at_call 71; refine (HNOTE2.out _ (Chg.refl _ _)).mono ?_; rintro e W6 ⟨rfl, hr6, hc6⟩; have HR6 := Lib.hid hr6; have HC6 := Lib.hid hc6; have e12 : W6.cell? ⟨bx, 12, none⟩ = some (.int .i64 (iN : Int)) := HR6.out.cell rfl; have f12 := HR6.out.free 12; have e17 : W6.cell? ⟨bx, 17, none⟩ = some (.int .u32 x.b) := HR6.out.cell rfl; have f17 := HR6.out.free 17; clear hr6 hc6) | (go_at_call 72; refine (choose_any bx ({ ({ x with row := 1, i := (iN : Int) } : ROp) with u := U, i := (iN : Int) + 1 } : ROp) f _ (HR6.out.set 12 (.int .i64 ((iN : Int) + 1))) HF.out HFF.out HFL.out).mono ?_; rintro e w ⟨rfl, rfl⟩) | (go_at_call 68; refine (to_any bx ({ ({ x with row := 1, i := (iN : Int) } : ROp) with u := U, b := (f : Int), i := (iN : Int) + 1 } : ROp) 2 _ ((HR6.out.set 12 (.int .i64 ((iN : Int) + 1))).set 17 (.int .u32 (f : Int)))).mono ?_; rintro e W7 ⟨rfl, hr7, hc7⟩; have HR7 := Lib.hid hr7; have HC7 := Lib.hid hc7; clear hr7 hc7))
  all_goals (first | go_end0 | refine bodyPost_ret (results_none rfl _ _ _) rfl ?_)
  all_goals exact ⟨rfl, HR7.out, LT.keep HL.out (((HC6.out.setCell (.inl (by simp)) _).setCell (.inl (by simp)) _).trans HC7.out) (by simp; exact hne1b), ((HC6.out.setCell (.inl (by simp)) _).setCell (.inl (by simp)) _).trans HC7.out⟩
set_option maxHeartbeats 8000000 in
theorem chenW_2 (bx g rg o m cp iN rn rcap : Nat) (x : ROp) (ws : List Int) (rv : Int) (at_ : Nat) (W : World) (h : RAt W bx ({ x with row := 2, i := (iN : Int), rcd := .slice (some ⟨rg, 0, none⟩) rn rcap } : ROp)) (hl : LT tn W g ws) (hop : x.op = writesI x.k) (hrl : x.rl ≤ 100) (hw : 1 ≤ x.w ∧ x.w ≤ 8) (hi : iN ≤ 100) (hir : iN < rn)
    (hsl : 0 ≤ x.b ∧ x.b ≤ 4294967295) (hat : headI x.k x.rl + x.b * x.w + iN = (at_ : Int)) (ham : at_ < m) (hmc : m ≤ cp) (hom : o + m ≤ ws.length)
    (hrv : W.cell? ⟨rg, iN, none⟩ = some (.int .u32 rv)) (hne1 : bx ≠ g) (hne2 : ¬ rg = bx) (hne3 : ¬ rg = g) :
    Calls Try.prog 41 #[.pointer (some ⟨bx, 0, none⟩), .slice (some ⟨g, o, none⟩) m cp] W fun e W' => e = .returned (.tuple #[]) ∧ RAt W' bx (if (iN : Int) + 1 < x.w then { ({ x with row := 2, i := (iN : Int), rcd := .slice (some ⟨rg, 0, none⟩) rn rcap } : ROp) with i := (iN : Int) + 1 } else { ({ x with row := 2, i := (iN : Int), rcd := .slice (some ⟨rg, 0, none⟩) rn rcap } : ROp) with row := 3, i := 0 }) ∧ LT tn W' g (ws.set (o + at_) rv) ∧ Chg [bx, g] W W' := by
  have HB : Hid (Blk W bx ({ x with row := 2, i := (iN : Int), rcd := .slice (some ⟨rg, 0, none⟩) rn rcap } : ROp).cells 45) := Lib.hid h
  have hword := word_write bx g rg ({ x with row := 2 } : ROp) x.b 3 o m cp iN rn rcap at_ ws rv W HB.out hl hop hrl hw hi hir hsl hat ham hmc hom hrv hne1 hne2 hne3
  rw [if_neg (show ¬ ((3 : Int) < 0) by decide)] at hword
  have HWORD := Lib.hid hword
  have e11 : W.cell? ⟨bx, 11, none⟩ = some (.int .i64 2) := HB.out.cell rfl
  have e17 : W.cell? ⟨bx, 17, none⟩ = some (.int .u32 x.b) := HB.out.cell rfl
  have e7 : W.cell? ⟨bx, 7, none⟩ = some (.slice x.ra x.rl x.rc) := HB.out.cell rfl
  generalize hpost : (if (iN : Int) + 1 < x.w then { ({ x with row := 2, i := (iN : Int), rcd := .slice (some ⟨rg, 0, none⟩) rn rcap } : ROp) with i := (iN : Int) + 1 } else { ({ x with row := 2, i := (iN : Int), rcd := .slice (some ⟨rg, 0, none⟩) rn rcap } : ROp) with row := 3, i := 0 }) = yy
  have HPOST := Lib.hid hpost
  clear h hl hop hrl hrv hat hword hom hpost hsl
  go_enter Try.func41, Try.ntmps41
  go_wp2_with (go_at_call 69; refine HWORD.out.mono ?_; rintro e W7 ⟨rfl, hr7, hl7, hc7⟩; have HR7 := Lib.hid hr7; have HL7 := Lib.hid hl7; have HC7 := Lib.hid hc7; clear hr7 hl7 hc7)
  all_goals (first | go_end0 | refine bodyPost_ret (results_none rfl _ _ _) rfl ?_)
  all_goals exact ⟨rfl, by rw [← HPOST.out]; exact HR7.out, HL7.out, HC7.out⟩
set_option maxHeartbeats 8000000 in
theorem chenW_3 (bx g o m cp : Nat) (x : ROp) (ws : List Int) (W : World) (h : RAt W bx ({ x with row := 3 } : ROp)) (hl : LT tn W g ws) (hwf : ∀ z ∈ ws, 0 ≤ z ∧ z ≤ 4294967295) (hm : 1 ≤ m) (hmc : m ≤ cp) (hom : o + m ≤ ws.length) (hne1 : bx ≠ g) :
    Calls Try.prog 41 #[.pointer (some ⟨bx, 0, none⟩), .slice (some ⟨g, o, none⟩) m cp] W fun e W' => e = .returned (.tuple #[]) ∧ RAt W' bx ({ ({ x with row := 3 } : ROp) with row := 4, i := 0 } : ROp) ∧ LT tn W' g (ws.set (o + 0) x.b) ∧ Chg [bx, g] W W' := by
  have HB : Hid (Blk W bx ({ x with row := 3 } : ROp).cells 45) := Lib.hid h
  have HL := Lib.hid hl
  have hm00 : 0 < m := by omega
  have hm00I : (0 : Int) < (m : Int) := by omega
  have hne1b : ¬ g = bx := fun hh => hne1 hh.symm
  have hjv0 : o + 0 < ws.length := by omega
  have cv0 : W.cell? ⟨g, o, none⟩ = some (.int .u32 (ws.getD (o + 0) 0)) := LT.word HL.out (o + 0) hjv0
  have bv0 : 0 ≤ ws.getD (o + 0) 0 ∧ ws.getD (o + 0) 0 ≤ 4294967295 := hwf _ (by rw [List.getD_eq_getElem?_getD, List.getElem?_eq_getElem hjv0]; exact List.getElem_mem hjv0)
  generalize ws.getD (o + 0) 0 = v0 at *
  have e11 : W.cell? ⟨bx, 11, none⟩ = some (.int .i64 3) := HB.out.cell rfl
  have e17 : W.cell? ⟨bx, 17, none⟩ = some (.int .u32 x.b) := HB.out.cell rfl
  have e7 : W.cell? ⟨bx, 7, none⟩ = some (.slice x.ra x.rl x.rc) := HB.out.cell rfl
  have g1 : W.frozen? ⟨g, o, none⟩ = false := HL.out.free (o + 0)
  have HLT9 := Lib.hid hjv0
  clear h hl hwf hom hjv0
  go_enter Try.func41, Try.ntmps41
  go_wp2_with (go_at_call 68; refine (to_any bx ({ x with row := 3 } : ROp) 4 _ (Blk.set_ne HB.out hne1 _ _ _)).mono ?_; rintro e W7 ⟨rfl, hr7, hc7⟩; have HR7 := Lib.hid hr7; have HC7 := Lib.hid hc7; clear hr7 hc7)
  all_goals (first | go_end0 | refine bodyPost_ret (results_none rfl _ _ _) rfl ?_)
  all_goals exact ⟨rfl, HR7.out, LT.keep (LT.put HL.out (o + 0) x.b HLT9.out) HC7.out (by simp; exact hne1b), ((Chg.refl [bx, g] W).setCell (.inl (by simp)) _).trans (HC7.out.mono (by simp))⟩
/-- a word that is changed if it is as it was -/
def swapR (ws : List Int) (i : Nat) (was now : Int) : List Int := if ws.getD i 0 = was then ws.set i now else ws
set_option maxHeartbeats 16000000 in
theorem chenW_4 (bx g o m cp iN : Nat) (x : ROp) (ws : List Int) (W : World) (h : RAt W bx ({ x with row := 4, i := (iN : Int) } : ROp)) (hl : LT tn W g ws) (hwf : ∀ z ∈ ws, 0 ≤ z ∧ z ≤ 4294967295) (hm : 1 + iN < m) (hmc : m ≤ cp) (hom : o + m ≤ ws.length) (hne1 : bx ≠ g) (hi : iN ≤ 100) (hrl : x.rl ≤ 100) :
    Calls Try.prog 41 #[.pointer (some ⟨bx, 0, none⟩), .slice (some ⟨g, o, none⟩) m cp] W fun e W' => e = .returned (.tuple #[]) ∧ RAt W' bx (if iN + 1 = x.rl then (({ ({ x with row := 4, i := (iN : Int) } : ROp) with i := (iN : Int) + 1 } : ROp).ended 0) else ({ ({ x with row := 4, i := (iN : Int) } : ROp) with i := (iN : Int) + 1 } : ROp)) ∧ LT tn W' g ((swapR ws (o + (1 + iN)) ((x.rl : Int) + 2) x.b)) ∧ Chg [bx, g] W W' := by
  have HB : Hid (Blk W bx ({ x with row := 4, i := (iN : Int) } : ROp).cells 45) := Lib.hid h
  have HL := Lib.hid hl
  have hm00 : 0 < m := by omega
  have hm00I : (0 : Int) < (m : Int) := by omega
  have hne1b : ¬ g = bx := fun hh => hne1 hh.symm
  have hjv0 : o + (1 + iN) < ws.length := by omega
  have cv0 : W.cell? ⟨g, o + (1 + iN), none⟩ = some (.int .u32 (ws.getD (o + (1 + iN)) 0)) := LT.word HL.out (o + (1 + iN)) hjv0
  have bv0 : 0 ≤ ws.getD (o + (1 + iN)) 0 ∧ ws.getD (o + (1 + iN)) 0 ≤ 4294967295 := hwf _ (by rw [List.getD_eq_getElem?_getD, List.getElem?_eq_getElem hjv0]; exact List.getElem_mem hjv0)
  obtain ⟨wz, hwz⟩ : ∃ wz, (swapR ws (o + (1 + iN)) ((x.rl : Int) + 2) x.b) = wz := ⟨_, rfl⟩
  rw [hwz]
  obtain ⟨v0, hv0⟩ : ∃ v0, ws.getD (o + (1 + iN)) 0 = v0 := ⟨_, rfl⟩
  have HWZ : Hid (wz = if v0 = (x.rl : Int) + 2 then ws.set (o + (1 + iN)) x.b else ws) := Lib.hid (by rw [← hwz, ← hv0]; rfl)
  rw [hv0] at cv0 bv0
  have kr : IntKind.i64.wrap (1 + (iN : Int)) = ((1 + iN : Nat) : Int) := by rw [IntKind.wrap_i64]; omega
  have hr2 : ((1 + iN : Nat) : Int) < (m : Int) := by omega
  have hr3 : (1 : Int) + (iN : Int) < (m : Int) := by omega
  have ki : IntKind.i64.wrap ((iN : Int) + 1) = (iN : Int) + 1 := by rw [IntKind.wrap_i64]; omega
  have hr0 : (0 : Int) ≤ 1 + (iN : Int) := by omega
  have kn0 : (1 + (iN : Int)).toNat = 1 + iN := by omega
  have kn1 : IntKind.i64.wrap ((x.rl : Int) + 2) = (x.rl : Int) + 2 := by rw [IntKind.wrap_i64]; omega
  have kn2 : IntKind.u32.wrap ((x.rl : Int) + 2) = (x.rl : Int) + 2 := by rw [IntKind.wrap_u32]; omega
  have HJR := Lib.hid hjv0
  obtain ⟨lb, hlb⟩ : ∃ lb, ((iN : Int) + 1 == (x.rl : Int)) = lb := ⟨_, rfl⟩
  generalize hpost : (if iN + 1 = x.rl then (({ ({ x with row := 4, i := (iN : Int) } : ROp) with i := (iN : Int) + 1 } : ROp).ended 0) else ({ ({ x with row := 4, i := (iN : Int) } : ROp) with i := (iN : Int) + 1 } : ROp)) = yy
  have HPOST : Hid (yy = if lb = true then (({ ({ x with row := 4, i := (iN : Int) } : ROp) with i := (iN : Int) + 1 } : ROp).ended 0) else ({ ({ x with row := 4, i := (iN : Int) } : ROp) with i := (iN : Int) + 1 } : ROp)) := Lib.hid (by
    rw [← hpost, ← hlb]
    by_cases h9 : iN + 1 = x.rl
    · rw [if_pos h9, if_pos (by simp; omega)]
    · rw [if_neg h9, if_neg (by simp; omega)])
  clear h hl hwf hom hjv0 hwz hv0 hm hi hrl hpost
  by_cases hv : v0 = (x.rl : Int) + 2
  · have HZ : Hid (wz = ws.set (o + (1 + iN)) x.b) := Lib.hid (by rw [HWZ.out, if_pos hv])
    have hvb : (v0 == (x.rl : Int) + 2) = true := by simpa using hv
    have g1 : W.frozen? ⟨g, o + (1 + iN), none⟩ = false := HL.out.free _
    have cvk := Lib.hid cv0
    clear hv HWZ
    have e11 : W.cell? ⟨bx, 11, none⟩ = some (.int .i64 4) := HB.out.cell rfl
    have e7 : W.cell? ⟨bx, 7, none⟩ = some (.slice x.ra x.rl x.rc) := HB.out.cell rfl
    have e12 : W.cell? ⟨bx, 12, none⟩ = some (.int .i64 (iN : Int)) := HB.out.cell rfl
    go_enter Try.func41, Try.ntmps41
    go_wp2_with fail
    have eS0 : W.cell? ⟨bx, 12, none⟩ = some (.int .i64 (iN : Int)) := e12
    have eS1 : W.cell? ⟨bx, 17, none⟩ = some (.int .u32 x.b) := (HB.out.cell rfl)
    have KEEP := Lib.hid (fun (V : World) (h : Chg [] W V) => (⟨h.keep eS0 (by simp), h.keep eS1 (by simp), Lib.hid h⟩ : (fun V : World => V.cell? ⟨bx, 12, none⟩ = some (.int .i64 (iN : Int)) ∧ V.cell? ⟨bx, 17, none⟩ = some (.int .u32 x.b) ∧ Hid (Chg [] W V)) V))
    clear eS0 eS1 e12 e7 e11 cv0 g1
    have hHeld : (fun V : World => V.cell? ⟨bx, 12, none⟩ = some (.int .i64 (iN : Int)) ∧ V.cell? ⟨bx, 17, none⟩ = some (.int .u32 x.b) ∧ Hid (Chg [] W V)) W.drew := KEEP.out _ (Chg.refl _ _).drew
    refine wp_region_planT (fun V : World => V.cell? ⟨bx, 12, none⟩ = some (.int .i64 (iN : Int)) ∧ V.cell? ⟨bx, 17, none⟩ = some (.int .u32 x.b) ∧ Hid (Chg [] W V)) 11 [(0, true, some 89), (1, true, some 90), (2, true, some 91), (3, true, some 92), (4, true, some 93), (5, true, some 94), (6, true, some 95), (7, true, some 96), (8, true, some 97), (9, true, some 98), (10, true, some 99)] (by kernel_rfl) (by kernel_rfl) (by kernel_rfl) (by kernel_rfl) (by kernel_rfl) (fun d c a v w h => by cases d <;> exact h) hHeld ?_
    repeat (refine planT_read (v := ?_) rfl rfl ?_ ?_ ?_; rotate_left; (focus rfl); (focus (intro u hSw; (try dsimp only at hSw); go_simp; (try with_reducible rfl))); (try simp only [Act.put, List.setIfInBounds_toArray, List.set_cons_zero, List.set_cons_succ]))
    have g2 : W.drew.frozen? ⟨g, o + (1 + iN), none⟩ = false := HL.out.free _
    have cv2 : W.drew.cell? ⟨g, o + (1 + iN), none⟩ = some (.int .u32 v0) := cvk.out
    refine planT_last rfl ?_ (fun K hK => ?_)
    · rfl
    go_simp
    refine hK.out _ _ ?_
    clear hK K hHeld KEEP g2 cv2
    have HB5 : Hid (Blk (W.drew.setCell ⟨g, o + (1 + iN), none⟩ (.int .u32 x.b)) bx ({ x with row := 4, i := (iN : Int) } : ROp).cells 45) := Lib.hid (Blk.set_ne HB.out.drew hne1 _ _ _)
    have HL5 : Hid (LT tn (W.drew.setCell ⟨g, o + (1 + iN), none⟩ (.int .u32 x.b)) g wz) := Lib.hid (by rw [HZ.out]; exact LT.put (LT.drew HL.out) (o + (1 + iN)) x.b HJR.out)
    have HC5 : Hid (Chg [bx, g] W (W.drew.setCell ⟨g, o + (1 + iN), none⟩ (.int .u32 x.b))) := Lib.hid ((Chg.refl [bx, g] W).drew.setCell (.inl (by simp)) _)
    refine then_gen (R := fun V => Hid (Blk V bx ({ x with row := 4, i := (iN : Int) } : ROp).cells 45) ∧ Hid (LT tn V g wz) ∧ Hid (Chg [bx, g] W V)) ⟨HB5, HL5, HC5⟩ ?_
    clear HB5 HL5 HC5 HB HL cvk
    rintro W5 ⟨HB5, HL5, HC5⟩
    have e12 : W5.cell? ⟨bx, 12, none⟩ = some (.int .i64 (iN : Int)) := HB5.out.cell rfl
    have f12 := HB5.out.free 12
    cases lb
    · have HP : Hid (yy = ({ ({ x with row := 4, i := (iN : Int) } : ROp) with i := (iN : Int) + 1 } : ROp)) := HPOST
      go_wp2_with fail
      all_goals (first | go_end0 | refine bodyPost_ret (results_none rfl _ _ _) rfl ?_)
      all_goals exact ⟨rfl, by rw [HP.out]; exact HB5.out.set 12 (.int .i64 ((iN : Int) + 1)), LT.set_ne HL5.out hne1b _ _ _, HC5.out.setCell (.inl (by simp)) _⟩
    · have HP : Hid (yy = ({ ({ x with row := 4, i := (iN : Int) } : ROp) with i := (iN : Int) + 1 } : ROp).ended 0) := HPOST
      go_wp2_with (go_at_call 70; refine (end_any bx ({ ({ x with row := 4, i := (iN : Int) } : ROp) with i := (iN : Int) + 1 } : ROp) 0 _ (HB5.out.set 12 (.int .i64 ((iN : Int) + 1)))).mono ?_; rintro e W7 ⟨rfl, hr7, hc7⟩; have HR7 := Lib.hid hr7; have HC7 := Lib.hid hc7; clear hr7 hc7)
      all_goals (first | go_end0 | refine bodyPost_ret (results_none rfl _ _ _) rfl ?_)
      all_goals exact ⟨rfl, by rw [HP.out]; exact HR7.out, LT.keep (LT.set_ne HL5.out hne1b _ _ _) HC7.out (by simp; exact hne1b), (HC5.out.setCell (.inl (by simp)) _).trans (HC7.out.mono (by simp))⟩
  · have HZ : Hid (wz = ws) := Lib.hid (by rw [HWZ.out, if_neg hv])
    have hvb : (v0 == (x.rl : Int) + 2) = false := by simpa using hv
    clear hv HWZ
    have e11 : W.cell? ⟨bx, 11, none⟩ = some (.int .i64 4) := HB.out.cell rfl
    have e7 : W.cell? ⟨bx, 7, none⟩ = some (.slice x.ra x.rl x.rc) := HB.out.cell rfl
    have HL5 : Hid (LT tn W g wz) := Lib.hid (by rw [HZ.out]; exact HL.out)
    have HC5 : Hid (Chg [bx, g] W W) := Lib.hid (Chg.refl _ _)
    go_enter Try.func41, Try.ntmps41
    have e12 : W.cell? ⟨bx, 12, none⟩ = some (.int .i64 (iN : Int)) := HB.out.cell rfl
    have f12 := HB.out.free 12
    cases lb
    · have HP : Hid (yy = ({ ({ x with row := 4, i := (iN : Int) } : ROp) with i := (iN : Int) + 1 } : ROp)) := HPOST
      go_wp2_with fail
      all_goals (first | go_end0 | refine bodyPost_ret (results_none rfl _ _ _) rfl ?_)
      all_goals exact ⟨rfl, by rw [HP.out]; exact HB.out.set 12 (.int .i64 ((iN : Int) + 1)), LT.set_ne HL5.out hne1b _ _ _, HC5.out.setCell (.inl (by simp)) _⟩
    · have HP : Hid (yy = ({ ({ x with row := 4, i := (iN : Int) } : ROp) with i := (iN : Int) + 1 } : ROp).ended 0) := HPOST
      go_wp2_with (go_at_call 70; refine (end_any bx ({ ({ x with row := 4, i := (iN : Int) } : ROp) with i := (iN : Int) + 1 } : ROp) 0 _ (HB.out.set 12 (.int .i64 ((iN : Int) + 1)))).mono ?_; rintro e W7 ⟨rfl, hr7, hc7⟩; have HR7 := Lib.hid hr7; have HC7 := Lib.hid hc7; clear hr7 hc7)
      all_goals (first | go_end0 | refine bodyPost_ret (results_none rfl _ _ _) rfl ?_)
      all_goals exact ⟨rfl, by rw [HP.out]; exact HR7.out, LT.keep (LT.set_ne HL5.out hne1b _ _ _) HC7.out (by simp; exact hne1b), (HC5.out.setCell (.inl (by simp)) _).trans (HC7.out.mono (by simp))⟩
set_option maxHeartbeats 8000000 in
theorem chenR_0 (bx g o m cp rN : Nat) (x : ROp) (ws : List Int) (W : World) (h : RAt W bx ({ x with row := 0 } : ROp)) (hl : LT tn W g ws) (hwf : ∀ z ∈ ws, 0 ≤ z ∧ z ≤ 4294967295) (hm : 1 + rN < m) (hmc : m ≤ cp) (hom : o + m ≤ ws.length) (hne1 : bx ≠ g) (hrd : x.reader = (rN : Int)) (hrb : rN ≤ 100) (hrl : x.rl ≤ 100) :
    Calls Try.prog 42 #[.pointer (some ⟨bx, 0, none⟩), .slice (some ⟨g, o, none⟩) m cp] W fun e W' => e = .returned (.tuple #[]) ∧ RAt W' bx ({ ({ x with row := 0 } : ROp) with row := 1, i := 0 } : ROp) ∧ LT tn W' g (ws.set (o + (1 + rN)) ((x.rl : Int) + 2)) ∧ Chg [bx, g] W W' := by
  have HB : Hid (Blk W bx ({ x with row := 0 } : ROp).cells 45) := Lib.hid h
  have HL := Lib.hid hl
  have hm00 : 0 < m := by omega
  have hm00I : (0 : Int) < (m : Int) := by omega
  have hne1b : ¬ g = bx := fun hh => hne1 hh.symm
  have kr : IntKind.i64.wrap (1 + (rN : Int)) = ((1 + rN : Nat) : Int) := by rw [IntKind.wrap_i64]; omega
  have hr1 : 1 + rN < m := by omega
  have hr2 : ((1 + rN : Nat) : Int) < (m : Int) := by omega
  have hr3 : (1 : Int) + (rN : Int) < (m : Int) := by omega
  have kn1 : IntKind.i64.wrap ((x.rl : Int) + 2) = (x.rl : Int) + 2 := by rw [IntKind.wrap_i64]; omega
  have kn2 : IntKind.u32.wrap ((x.rl : Int) + 2) = (x.rl : Int) + 2 := by rw [IntKind.wrap_u32]; omega
  have e11 : W.cell? ⟨bx, 11, none⟩ = some (.int .i64 0) := HB.out.cell rfl
  have e7 : W.cell? ⟨bx, 7, none⟩ = some (.slice x.ra x.rl x.rc) := HB.out.cell rfl
  have e10 : W.cell? ⟨bx, 10, none⟩ = some (.int .i64 (rN : Int)) := by rw [← hrd]; exact HB.out.cell rfl
  have HJR : Hid (o + (1 + rN) < ws.length) := Lib.hid (by omega)
  have cw : W.cell? ⟨g, o + (1 + rN), none⟩ = some (.int .u32 (ws.getD (o + (1 + rN)) 0)) := LT.word HL.out _ HJR.out
  have gw : W.frozen? ⟨g, o + (1 + rN), none⟩ = false := HL.out.free _
  clear h hl hwf hom hrd hrb hrl hm
  go_enter Try.func42, Try.ntmps42
  go_wp2_with (go_at_call 68; refine (to_any bx ({ x with row := 0 } : ROp) 1 _ (Blk.set_ne HB.out hne1 _ _ _)).mono ?_; rintro e W7 ⟨rfl, hr7, hc7⟩; have HR7 := Lib.hid hr7; have HC7 := Lib.hid hc7; clear hr7 hc7)
  all_goals (first | go_end0 | refine bodyPost_ret (results_none rfl _ _ _) rfl ?_)
  all_goals exact ⟨rfl, HR7.out, LT.keep (LT.put HL.out (o + (1 + rN)) ((x.rl : Int) + 2) HJR.out) HC7.out (by simp; exact hne1b), ((Chg.refl [bx, g] W).setCell (.inl (by simp)) _).trans (HC7.out.mono (by simp))⟩
set_option maxHeartbeats 8000000 in
theorem chenR_1 (bx g o m cp rN : Nat) (x : ROp) (ws : List Int) (W : World) (h : RAt W bx ({ x with row := 1 } : ROp)) (hl : LT tn W g ws) (hwf : ∀ z ∈ ws, 0 ≤ z ∧ z ≤ 4294967295) (hm : 1 + rN < m) (hmc : m ≤ cp) (hom : o + m ≤ ws.length) (hne1 : bx ≠ g) (hrd : x.reader = (rN : Int)) (hrb : rN ≤ 100) (hrl : x.rl ≤ 100) :
    Calls Try.prog 42 #[.pointer (some ⟨bx, 0, none⟩), .slice (some ⟨g, o, none⟩) m cp] W fun e W' => e = .returned (.tuple #[]) ∧ RAt W' bx ({ ({ x with row := 1 } : ROp) with a := ws.getD (o + 0) 0, row := 2, i := 0 } : ROp) ∧ LT tn W' g (ws) ∧ Chg [bx] W W' := by
  have HB : Hid (Blk W bx ({ x with row := 1 } : ROp).cells 45) := Lib.hid h
  have HL := Lib.hid hl
  have hm00 : 0 < m := by omega
  have hm00I : (0 : Int) < (m : Int) := by omega
  have hne1b : ¬ g = bx := fun hh => hne1 hh.symm
  have kr : IntKind.i64.wrap (1 + (rN : Int)) = ((1 + rN : Nat) : Int) := by rw [IntKind.wrap_i64]; omega
  have hr1 : 1 + rN < m := by omega
  have hr2 : ((1 + rN : Nat) : Int) < (m : Int) := by omega
  have hr3 : (1 : Int) + (rN : Int) < (m : Int) := by omega
  have kn1 : IntKind.i64.wrap ((x.rl : Int) + 2) = (x.rl : Int) + 2 := by rw [IntKind.wrap_i64]; omega
  have kn2 : IntKind.u32.wrap ((x.rl : Int) + 2) = (x.rl : Int) + 2 := by rw [IntKind.wrap_u32]; omega
  have e11 : W.cell? ⟨bx, 11, none⟩ = some (.int .i64 1) := HB.out.cell rfl
  have e7 : W.cell? ⟨bx, 7, none⟩ = some (.slice x.ra x.rl x.rc) := HB.out.cell rfl
  have e10 : W.cell? ⟨bx, 10, none⟩ = some (.int .i64 (rN : Int)) := by rw [← hrd]; exact HB.out.cell rfl
  have HJR : Hid (o + (1 + rN) < ws.length) := Lib.hid (by omega)
  have hjv0 : o + 0 < ws.length := by omega
  have cv0 : W.cell? ⟨g, o, none⟩ = some (.int .u32 (ws.getD (o + 0) 0)) := LT.word HL.out (o + 0) hjv0
  have bv0 : 0 ≤ ws.getD (o + 0) 0 ∧ ws.getD (o + 0) 0 ≤ 4294967295 := hwf _ (by rw [List.getD_eq_getElem?_getD, List.getElem?_eq_getElem hjv0]; exact List.getElem_mem hjv0)
  generalize ws.getD (o + 0) 0 = v0 at *
  have e16 : W.cell? ⟨bx, 16, none⟩ = some (.int .u32 x.a) := HB.out.cell rfl
  have f16 := HB.out.free 16
  clear h hl hwf hom hrd hrb hrl hm hjv0
  go_enter Try.func42, Try.ntmps42
  go_wp2_with (go_at_call 68; refine (to_any bx ({ x with row := 1, a := v0 } : ROp) 2 _ (HB.out.set 16 (.int .u32 v0))).mono ?_; rintro e W7 ⟨rfl, hr7, hc7⟩; have HR7 := Lib.hid hr7; have HC7 := Lib.hid hc7; clear hr7 hc7)
  all_goals (first | go_end0 | refine bodyPost_ret (results_none rfl _ _ _) rfl ?_)
  all_goals exact ⟨rfl, HR7.out, LT.keep (LT.set_ne HL.out hne1b _ _ _) HC7.out (by simp; exact hne1b), ((Chg.refl [bx] W).setCell (.inl (by simp)) _).trans HC7.out⟩
set_option maxHeartbeats 8000000 in
theorem chenR_2 (bx g o m cp rN : Nat) (x : ROp) (ws : List Int) (W : World) (h : RAt W bx ({ x with row := 2 } : ROp)) (hl : LT tn W g ws) (hwf : ∀ z ∈ ws, 0 ≤ z ∧ z ≤ 4294967295) (hm : 1 + rN < m) (hmc : m ≤ cp) (hom : o + m ≤ ws.length) (hne1 : bx ≠ g) (hrd : x.reader = (rN : Int)) (hrb : rN ≤ 100) (hrl : x.rl ≤ 100) :
    Calls Try.prog 42 #[.pointer (some ⟨bx, 0, none⟩), .slice (some ⟨g, o, none⟩) m cp] W fun e W' => e = .returned (.tuple #[]) ∧ RAt W' bx ({ ({ x with row := 2 } : ROp) with row := 3, i := 0 } : ROp) ∧ LT tn W' g (swapR ws (o + (1 + rN)) ((x.rl : Int) + 2) x.a) ∧ Chg [bx, g] W W' := by
  have HB : Hid (Blk W bx ({ x with row := 2 } : ROp).cells 45) := Lib.hid h
  have HL := Lib.hid hl
  have hm00 : 0 < m := by omega
  have hm00I : (0 : Int) < (m : Int) := by omega
  have hne1b : ¬ g = bx := fun hh => hne1 hh.symm
  have kr : IntKind.i64.wrap (1 + (rN : Int)) = ((1 + rN : Nat) : Int) := by rw [IntKind.wrap_i64]; omega
  have hr1 : 1 + rN < m := by omega
  have hr2 : ((1 + rN : Nat) : Int) < (m : Int) := by omega
  have hr3 : (1 : Int) + (rN : Int) < (m : Int) := by omega
  have kn1 : IntKind.i64.wrap ((x.rl : Int) + 2) = (x.rl : Int) + 2 := by rw [IntKind.wrap_i64]; omega
  have kn2 : IntKind.u32.wrap ((x.rl : Int) + 2) = (x.rl : Int) + 2 := by rw [IntKind.wrap_u32]; omega
  have e11 : W.cell? ⟨bx, 11, none⟩ = some (.int .i64 2) := HB.out.cell rfl
  have e7 : W.cell? ⟨bx, 7, none⟩ = some (.slice x.ra x.rl x.rc) := HB.out.cell rfl
  have e10 : W.cell? ⟨bx, 10, none⟩ = some (.int .i64 (rN : Int)) := by rw [← hrd]; exact HB.out.cell rfl
  have HJR : Hid (o + (1 + rN) < ws.length) := Lib.hid (by omega)
  have cw : W.cell? ⟨g, o + (1 + rN), none⟩ = some (.int .u32 (ws.getD (o + (1 + rN)) 0)) := LT.word HL.out _ HJR.out
  have gw : W.frozen? ⟨g, o + (1 + rN), none⟩ = false := HL.out.free _
  have e16 : W.cell? ⟨bx, 16, none⟩ = some (.int .u32 x.a) := HB.out.cell rfl
  obtain ⟨wz, hwz⟩ : ∃ wz, swapR ws (o + (1 + rN)) ((x.rl : Int) + 2) x.a = wz := ⟨_, rfl⟩
  rw [hwz]
  obtain ⟨v0, hv0⟩ : ∃ v0, ws.getD (o + (1 + rN)) 0 = v0 := ⟨_, rfl⟩
  have HWZ : Hid (wz = if v0 = (x.rl : Int) + 2 then ws.set (o + (1 + rN)) x.a else ws) := Lib.hid (by rw [← hwz, ← hv0]; rfl)
  rw [hv0] at cw
  clear h hl hwf hom hrd hrb hrl hm hwz hv0
  by_cases hv : v0 = (x.rl : Int) + 2
  · have HZ : Hid (wz = ws.set (o + (1 + rN)) x.a) := Lib.hid (by rw [HWZ.out, if_pos hv])
    have hvb : (v0 == (x.rl : Int) + 2) = true := by simpa using hv
    clear hv HWZ
    go_enter Try.func42, Try.ntmps42
    go_wp2_with (go_at_call 68; refine (to_any bx ({ x with row := 2 } : ROp) 3 _ (Blk.set_ne HB.out hne1 _ _ _)).mono ?_; rintro e W7 ⟨rfl, hr7, hc7⟩; have HR7 := Lib.hid hr7; have HC7 := Lib.hid hc7; clear hr7 hc7)
    all_goals (first | go_end0 | refine bodyPost_ret (results_none rfl _ _ _) rfl ?_)
    all_goals exact ⟨rfl, HR7.out, by rw [HZ.out]; exact LT.keep (LT.put HL.out (o + (1 + rN)) x.a HJR.out) HC7.out (by simp; exact hne1b), ((Chg.refl [bx, g] W).setCell (.inl (by simp)) _).trans (HC7.out.mono (by simp))⟩
  · have HZ : Hid (wz = ws) := Lib.hid (by rw [HWZ.out, if_neg hv])
    have hvb : (v0 == (x.rl : Int) + 2) = false := by simpa using hv
    clear hv HWZ
    go_enter Try.func42, Try.ntmps42
    go_wp2_with (go_at_call 68; refine (to_any bx ({ x with row := 2 } : ROp) 3 _ HB.out).mono ?_; rintro e W7 ⟨rfl, hr7, hc7⟩; have HR7 := Lib.hid hr7; have HC7 := Lib.hid hc7; clear hr7 hc7)
    all_goals (first | go_end0 | refine bodyPost_ret (results_none rfl _ _ _) rfl ?_)
    all_goals exact ⟨rfl, HR7.out, by rw [HZ.out]; exact LT.keep HL.out HC7.out (by simp; exact hne1b), HC7.out.mono (by simp)⟩
set_option maxHeartbeats 8000000 in
theorem chenR_3 (bx g o m cp rN : Nat) (x : ROp) (ws : List Int) (W : World) (h : RAt W bx ({ x with row := 3 } : ROp)) (hl : LT tn W g ws) (hwf : ∀ z ∈ ws, 0 ≤ z ∧ z ≤ 4294967295) (hm : 1 + rN < m) (hmc : m ≤ cp) (hom : o + m ≤ ws.length) (hne1 : bx ≠ g) (hrd : x.reader = (rN : Int)) (hrb : rN ≤ 100) (hrl : x.rl ≤ 100) :
    Calls Try.prog 42 #[.pointer (some ⟨bx, 0, none⟩), .slice (some ⟨g, o, none⟩) m cp] W fun e W' => e = .returned (.tuple #[]) ∧ RAt W' bx ({ ({ x with row := 3 } : ROp) with b := ws.getD (o + (1 + rN)) 0 % ((x.rl : Int) + 2), row := 4, i := 0 } : ROp) ∧ LT tn W' g (ws) ∧ Chg [bx] W W' := by
  have HB : Hid (Blk W bx ({ x with row := 3 } : ROp).cells 45) := Lib.hid h
  have HL := Lib.hid hl
  have hm00 : 0 < m := by omega
  have hm00I : (0 : Int) < (m : Int) := by omega
  have hne1b : ¬ g = bx := fun hh => hne1 hh.symm
  have kr : IntKind.i64.wrap (1 + (rN : Int)) = ((1 + rN : Nat) : Int) := by rw [IntKind.wrap_i64]; omega
  have hr1 : 1 + rN < m := by omega
  have hr2 : ((1 + rN : Nat) : Int) < (m : Int) := by omega
  have hr3 : (1 : Int) + (rN : Int) < (m : Int) := by omega
  have kn1 : IntKind.i64.wrap ((x.rl : Int) + 2) = (x.rl : Int) + 2 := by rw [IntKind.wrap_i64]; omega
  have kn2 : IntKind.u32.wrap ((x.rl : Int) + 2) = (x.rl : Int) + 2 := by rw [IntKind.wrap_u32]; omega
  have e11 : W.cell? ⟨bx, 11, none⟩ = some (.int .i64 3) := HB.out.cell rfl
  have e7 : W.cell? ⟨bx, 7, none⟩ = some (.slice x.ra x.rl x.rc) := HB.out.cell rfl
  have e10 : W.cell? ⟨bx, 10, none⟩ = some (.int .i64 (rN : Int)) := by rw [← hrd]; exact HB.out.cell rfl
  have HJR : Hid (o + (1 + rN) < ws.length) := Lib.hid (by omega)
  have hjv0 : o + (1 + rN) < ws.length := by omega
  have cv0 : W.cell? ⟨g, o + (1 + rN), none⟩ = some (.int .u32 (ws.getD (o + (1 + rN)) 0)) := LT.word HL.out (o + (1 + rN)) hjv0
  have bv0 : 0 ≤ ws.getD (o + (1 + rN)) 0 ∧ ws.getD (o + (1 + rN)) 0 ≤ 4294967295 := hwf _ (by rw [List.getD_eq_getElem?_getD, List.getElem?_eq_getElem hjv0]; exact List.getElem_mem hjv0)
  generalize ws.getD (o + (1 + rN)) 0 = v0 at *
  have e17 : W.cell? ⟨bx, 17, none⟩ = some (.int .u32 x.b) := HB.out.cell rfl
  have f17 := HB.out.free 17
  have hs0 : (x.rl : Int) + 2 ≠ 0 := by omega
  have hs1 : ((x.rl : Int) + 2 == 0) = false := by simp; omega
  have kt : Int.tmod v0 ((x.rl : Int) + 2) = v0 % ((x.rl : Int) + 2) := Int.tmod_eq_emod_of_nonneg bv0.1
  have q1 := Int.emod_lt_of_pos v0 (show 0 < (x.rl : Int) + 2 by omega)
  have q2 := Int.emod_nonneg v0 hs0
  obtain ⟨q, hq⟩ : ∃ q, v0 % ((x.rl : Int) + 2) = q := ⟨_, rfl⟩
  rw [hq] at kt q1 q2 ⊢
  have kw : IntKind.u32.wrap q = q := by rw [IntKind.wrap_u32]; omega
  clear h hl hwf hom hrd hrb hrl hm hjv0 hs0 hq
  go_enter Try.func42, Try.ntmps42
  go_wp2_with (go_at_call 68; refine (to_any bx ({ x with row := 3, b := q } : ROp) 4 _ (HB.out.set 17 (.int .u32 q))).mono ?_; rintro e W7 ⟨rfl, hr7, hc7⟩; have HR7 := Lib.hid hr7; have HC7 := Lib.hid hc7; clear hr7 hc7)
  all_goals (first | go_end0 | refine bodyPost_ret (results_none rfl _ _ _) rfl ?_)
  all_goals exact ⟨rfl, HR7.out, LT.keep (LT.set_ne HL.out hne1b _ _ _) HC7.out (by simp; exact hne1b), ((Chg.refl [bx] W).setCell (.inl (by simp)) _).trans HC7.out⟩
set_option maxHeartbeats 8000000 in
theorem chenR_4 (B bx g o m cp iN rn rcap rN : Nat) (x : ROp) (rp : Option Addr) (ws recs : List Int) (at_ : Nat) (W : World) (h : RAt W bx ({ x with row := 4, i := (iN : Int), rcd := .slice rp rn rcap } : ROp)) (hl : LT tn W g ws) (hwf : ∀ z ∈ ws, 0 ≤ z ∧ z ≤ 4294967295) (hop : x.op ≠ writesI x.k) (hrl : x.rl ≤ 100) (hw : 1 ≤ x.w ∧ x.w ≤ 8) (hi : iN ≤ 100)
    (hrn : recs.length = rn) (hrn2 : rn ≤ 1000) (hrd : x.reader = (rN : Int)) (hrb : rN ≤ 100) (hm : 1 + rN < m) (hsl : 0 ≤ x.b ∧ x.b ≤ 4294967295) (hat : headI x.k x.rl + x.b * x.w + iN = (at_ : Int)) (ham : at_ < m) (hmc : m ≤ cp) (hom : o + m ≤ ws.length)
    (hB : B ≤ W.heap.size) (hown : W.ownsRow B 22 1 (.slice rp rn rcap) rn (recs.map (Value.int .u32))) (hne1 : bx ≠ g) (hne2 : ∀ y, (Value.slice rp rn rcap).ownBlock = some y → y ≠ bx ∧ y ≠ g) :
    Calls Try.prog 42 #[.pointer (some ⟨bx, 0, none⟩), .slice (some ⟨g, o, none⟩) m cp] W fun e W' => ∃ v, e = .returned (.tuple #[]) ∧
      RAt W' bx (nextR { x with row := 4 } iN (-1) v) ∧ LT tn W' g ws ∧ W'.ownsRow B 22 1 v (rn + 1) ((recs ++ [ws.getD (o + at_) 0]).map (Value.int .u32)) ∧ (∀ y, v.ownBlock = some y → (Value.slice rp rn rcap).ownBlock = some y ∨ W.heap.size ≤ y) ∧ Chg (bx :: (Value.slice rp rn rcap).ownBlock.toList) W W' := by
  have HB : Hid (Blk W bx ({ x with row := 4, i := (iN : Int), rcd := .slice rp rn rcap } : ROp).cells 45) := Lib.hid h
  have HL := Lib.hid hl
  have hm00 : 0 < m := by omega
  have hm00I : (0 : Int) < (m : Int) := by omega
  have hne1b : ¬ g = bx := fun hh => hne1 hh.symm
  have kr : IntKind.i64.wrap (1 + (rN : Int)) = ((1 + rN : Nat) : Int) := by rw [IntKind.wrap_i64]; omega
  have hr1 : 1 + rN < m := by omega
  have hr2 : ((1 + rN : Nat) : Int) < (m : Int) := by omega
  have hr3 : (1 : Int) + (rN : Int) < (m : Int) := by omega
  have HWORD := Lib.hid (fun (V : World) (hV : Chg [] W V) => word_read B bx g ({ x with row := 4 } : ROp) x.b (-1) o m cp iN rn rcap at_ rp ws recs V (Blk.keep HB.out hV (by simp)) (LT.keep hl hV (by simp)) hop hrl hw hi hrn hrn2 hsl hat ham hmc hom (Nat.le_trans hB hV.size) (kit.own_chg hown hV (by simp)) hne1 hne2)
  have HR9 : Hid (Chg [] W W) := Lib.hid (Chg.refl _ _)
  have kn1 : IntKind.i64.wrap ((x.rl : Int) + 2) = (x.rl : Int) + 2 := by rw [IntKind.wrap_i64]; omega
  have kn2 : IntKind.u32.wrap ((x.rl : Int) + 2) = (x.rl : Int) + 2 := by rw [IntKind.wrap_u32]; omega
  have e11 : W.cell? ⟨bx, 11, none⟩ = some (.int .i64 4) := HB.out.cell rfl
  have e7 : W.cell? ⟨bx, 7, none⟩ = some (.slice x.ra x.rl x.rc) := HB.out.cell rfl
  have e17 : W.cell? ⟨bx, 17, none⟩ = some (.int .u32 x.b) := HB.out.cell rfl
  have e10 : W.cell? ⟨bx, 10, none⟩ = some (.int .i64 (rN : Int)) := by rw [← hrd]; exact HB.out.cell rfl
  clear h hl hwf hom hrd hrb hm hop hrl hat hown hrn hrn2 hB hne2 hsl
  go_enter Try.func42, Try.ntmps42
  go_wp2_with (go_at_call 69; refine (HWORD.out _ HR9.out).mono ?_; rintro e W7 ⟨v7, rfl, hr7, hl7, ho7, hv7, hc7⟩; have HR7 := Lib.hid hr7; have HL7 := Lib.hid hl7; have HO7 := Lib.hid ho7; have HV7 := Lib.hid hv7; have HC7 := Lib.hid hc7; clear hr7 hl7 ho7 hv7 hc7)
  all_goals (first | go_end0 | refine bodyPost_ret (results_none rfl _ _ _) rfl ?_)
  all_goals exact ⟨v7, rfl, HR7.out, HL7.out, HO7.out, fun y hy => (HV7.out y hy).imp id (fun hh => Nat.le_trans HR9.out.size hh), (HR9.out.mono (by simp)).trans HC7.out⟩
end Go.Proofs.Ytjplamoofkcojaa.ref
