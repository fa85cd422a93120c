/- Parts joined: Rop5, Rop6. -/
import Derived.Test.YtjplamoofkcojaaRopA
/- The reference's operation: the kind of four slots: the rows that are no words of a record. -/
namespace Go.Proofs.Ytjplamoofkcojaa.rop
open Go Go.RowKit Go.Proofs.Ytjplamoofkcojaa.kit Go.Proofs.Ytjplamoofkcojaa.obj
set_option linter.unusedVariables false
set_option linter.unusedSimpArgs false
set_option maxRecDepth 20000

theorem LB.word {W : World} {g : Nat} {ws : List Int} (h : LB W g ws) (j : Nat) (hj : j < ws.length) : W.cell? ⟨g, j, none⟩ = some (.int .u32 (ws.getD j 0)) := Blk.cell h (by simp [List.getD, hj])

set_option maxHeartbeats 4000000 in
theorem fourWrite_0 (bx g o m cp : Nat) (x : ROp) (ws : List Int) (W : World) (h : RAt W bx { x with row := 0 }) (hl : LB W g ws) (hwf : ∀ z ∈ ws, 0 ≤ z ∧ z ≤ 4294967295) (hm : 4 ≤ m) (hmc : m ≤ cp) (hom : o + m ≤ ws.length) (hne1 : bx ≠ g) :
    Calls Try.prog 39 #[.pointer (some ⟨bx, 0, none⟩), .slice (some ⟨g, o, none⟩) m cp] W fun e W' => e = .returned (.tuple #[]) ∧ RAt W' bx { x with a := (ws.getD (o + 1) 0 + 1) % 2, row := 1, i := 0 } ∧ LB W' g ws ∧ Chg [bx] W W' := by
  have HB : Hid (Blk W bx ({ x with row := 0 } : ROp).cells 45) := Lib.hid h
  have HL := Lib.hid hl
  have hj1 : o + 1 < ws.length := by omega
  have c1 : W.cell? ⟨g, o + 1, none⟩ = some (.int .u32 (ws.getD (o + 1) 0)) := LB.word HL.out (o + 1) hj1
  have b1 : 0 ≤ ws.getD (o + 1) 0 ∧ ws.getD (o + 1) 0 ≤ 4294967295 := hwf _ (by rw [List.getD_eq_getElem?_getD, List.getElem?_eq_getElem hj1]; exact List.getElem_mem hj1)
  generalize ws.getD (o + 1) 0 = v1 at *
  have e11 : W.cell? ⟨bx, 11, none⟩ = some (.int .i64 0) := HB.out.cell rfl
  have e16 : W.cell? ⟨bx, 16, none⟩ = some (.int .u32 x.a) := HB.out.cell rfl
  have f16 := HB.out.free 16
  have hm1 : 1 < m := by omega
  have hne1b : ¬ g = bx := fun hh => hne1 hh.symm
  clear h hl hwf hom hj1
  go_enter Try.func39, Try.ntmps39
  go_wp2_with (go_at_call 68; refine (to_any bx ({ x with a := (v1 + 1) % 2, row := 0 } : ROp) 1 _ (HB.out.set 16 (.int .u32 ((v1 + 1) % 2)))).mono ?_; rintro e W7 ⟨rfl, hr7, hc7⟩; have HR7 := Lib.hid hr7; have HC7 := Lib.hid hc7; clear hr7 hc7)
  go_end0
  exact ⟨rfl, HR7.out, Blk.keep (Blk.set_ne HL.out hne1b _ _ _) HC7.out (by simp; exact hne1b), ((Chg.refl [bx] W).setCell (.inl (by simp)) _).trans HC7.out⟩

set_option maxHeartbeats 4000000 in
theorem fourWrite_1_0 (bx g o m cp : Nat) (x : ROp) (ws : List Int) (W : World) (h : RAt W bx { x with row := 1, a := 0 }) (hl : LB W g ws) (hwf : ∀ z ∈ ws, 0 ≤ z ∧ z ≤ 4294967295) (hm : 4 ≤ m) (hmc : m ≤ cp) (hom : o + m ≤ ws.length) (hne1 : bx ≠ g) :
    Calls Try.prog 39 #[.pointer (some ⟨bx, 0, none⟩), .slice (some ⟨g, o, none⟩) m cp] W fun e W' => e = .returned (.tuple #[]) ∧ RAt W' bx { x with a := 0, b := (ws.getD (o + 2) 0 + 1) % 2, row := 2, i := 0 } ∧ LB W' g ws ∧ Chg [bx] W W' := by
  have HB : Hid (Blk W bx ({ x with row := 1, a := 0 } : ROp).cells 45) := Lib.hid h
  have HL := Lib.hid hl
  have hj1 : o + 2 < ws.length := by omega
  have c1 : W.cell? ⟨g, o + 2, none⟩ = some (.int .u32 (ws.getD (o + 2) 0)) := LB.word HL.out (o + 2) hj1
  have b1 : 0 ≤ ws.getD (o + 2) 0 ∧ ws.getD (o + 2) 0 ≤ 4294967295 := hwf _ (by rw [List.getD_eq_getElem?_getD, List.getElem?_eq_getElem hj1]; exact List.getElem_mem hj1)
  generalize ws.getD (o + 2) 0 = v1 at *
  have e11 : W.cell? ⟨bx, 11, none⟩ = some (.int .i64 1) := HB.out.cell rfl
  have e16 : W.cell? ⟨bx, 16, none⟩ = some (.int .u32 0) := HB.out.cell rfl
  have e17 : W.cell? ⟨bx, 17, none⟩ = some (.int .u32 x.b) := HB.out.cell rfl
  have f17 := HB.out.free 17
  have hm1 : 2 < m := by omega
  have hne1b : ¬ g = bx := fun hh => hne1 hh.symm
  clear h hl hwf hom hj1
  go_enter Try.func39, Try.ntmps39
  go_wp2_with (go_at_call 68; refine (to_any bx ({ x with a := 0, b := (v1 + 1) % 2, row := 1 } : ROp) 2 _ (HB.out.set 17 (.int .u32 ((v1 + 1) % 2)))).mono ?_; rintro e W7 ⟨rfl, hr7, hc7⟩; have HR7 := Lib.hid hr7; have HC7 := Lib.hid hc7; clear hr7 hc7)
  go_end0
  exact ⟨rfl, HR7.out, Blk.keep (Blk.set_ne HL.out hne1b _ _ _) HC7.out (by simp; exact hne1b), ((Chg.refl [bx] W).setCell (.inl (by simp)) _).trans HC7.out⟩

set_option maxHeartbeats 4000000 in
theorem fourWrite_1_1 (bx g o m cp : Nat) (x : ROp) (ws : List Int) (W : World) (h : RAt W bx { x with row := 1, a := 1 }) (hl : LB W g ws) (hwf : ∀ z ∈ ws, 0 ≤ z ∧ z ≤ 4294967295) (hm : 4 ≤ m) (hmc : m ≤ cp) (hom : o + m ≤ ws.length) (hne1 : bx ≠ g) :
    Calls Try.prog 39 #[.pointer (some ⟨bx, 0, none⟩), .slice (some ⟨g, o, none⟩) m cp] W fun e W' => e = .returned (.tuple #[]) ∧ RAt W' bx { x with a := 1, b := (ws.getD (o + 3) 0 + 1) % 2, row := 2, i := 0 } ∧ LB W' g ws ∧ Chg [bx] W W' := by
  have HB : Hid (Blk W bx ({ x with row := 1, a := 1 } : ROp).cells 45) := Lib.hid h
  have HL := Lib.hid hl
  have hj1 : o + 3 < ws.length := by omega
  have c1 : W.cell? ⟨g, o + 3, none⟩ = some (.int .u32 (ws.getD (o + 3) 0)) := LB.word HL.out (o + 3) hj1
  have b1 : 0 ≤ ws.getD (o + 3) 0 ∧ ws.getD (o + 3) 0 ≤ 4294967295 := hwf _ (by rw [List.getD_eq_getElem?_getD, List.getElem?_eq_getElem hj1]; exact List.getElem_mem hj1)
  generalize ws.getD (o + 3) 0 = v1 at *
  have e11 : W.cell? ⟨bx, 11, none⟩ = some (.int .i64 1) := HB.out.cell rfl
  have e16 : W.cell? ⟨bx, 16, none⟩ = some (.int .u32 1) := HB.out.cell rfl
  have e17 : W.cell? ⟨bx, 17, none⟩ = some (.int .u32 x.b) := HB.out.cell rfl
  have f17 := HB.out.free 17
  have hm1 : 3 < m := by omega
  have hne1b : ¬ g = bx := fun hh => hne1 hh.symm
  clear h hl hwf hom hj1
  go_enter Try.func39, Try.ntmps39
  go_wp2_with (go_at_call 68; refine (to_any bx ({ x with a := 1, b := (v1 + 1) % 2, row := 1 } : ROp) 2 _ (HB.out.set 17 (.int .u32 ((v1 + 1) % 2)))).mono ?_; rintro e W7 ⟨rfl, hr7, hc7⟩; have HR7 := Lib.hid hr7; have HC7 := Lib.hid hc7; clear hr7 hc7)
  go_end0
  exact ⟨rfl, HR7.out, Blk.keep (Blk.set_ne HL.out hne1b _ _ _) HC7.out (by simp; exact hne1b), ((Chg.refl [bx] W).setCell (.inl (by simp)) _).trans HC7.out⟩

set_option maxHeartbeats 4000000 in
theorem fourWrite_4 (bx g o m cp : Nat) (x : ROp) (ws : List Int) (W : World) (h : RAt W bx { x with row := 4 }) (hl : LB W g ws) (hwf : ∀ z ∈ ws, 0 ≤ z ∧ z ≤ 4294967295) (hm : 4 ≤ m) (hmc : m ≤ cp) (hom : o + m ≤ ws.length) (hne1 : bx ≠ g) :
    Calls Try.prog 39 #[.pointer (some ⟨bx, 0, none⟩), .slice (some ⟨g, o, none⟩) m cp] W fun e W' => e = .returned (.tuple #[]) ∧ RAt W' bx (({ x with row := 4 } : ROp).ended 0) ∧ LB W' g (ws.set (o + 0) x.a) ∧ Chg [bx, g] W W' := by
  have HB : Hid (Blk W bx ({ x with row := 4 } : ROp).cells 45) := Lib.hid h
  have HL := Lib.hid hl
  have hj1 : o + 0 < ws.length := by omega
  have c1 : W.cell? ⟨g, o, none⟩ = some (.int .u32 (ws.getD (o + 0) 0)) := LB.word HL.out (o + 0) hj1
  have b1 : 0 ≤ ws.getD (o + 0) 0 ∧ ws.getD (o + 0) 0 ≤ 4294967295 := hwf _ (by rw [List.getD_eq_getElem?_getD, List.getElem?_eq_getElem hj1]; exact List.getElem_mem hj1)
  generalize ws.getD (o + 0) 0 = v1 at *
  have e11 : W.cell? ⟨bx, 11, none⟩ = some (.int .i64 4) := HB.out.cell rfl
  have e16 : W.cell? ⟨bx, 16, none⟩ = some (.int .u32 x.a) := HB.out.cell rfl
  have g1 : W.frozen? ⟨g, o, none⟩ = false := HL.out.free (o + 0)
  have hm1 : 0 < m := by omega
  have hne1b : ¬ g = bx := fun hh => hne1 hh.symm
  clear h hl hwf hom hj1
  go_enter Try.func39, Try.ntmps39
  go_wp2_with (go_at_call 70; refine (end_any bx ({ x with row := 4 } : ROp) 0 _ (Blk.set_ne HB.out hne1 _ _ _)).mono ?_; rintro e W7 ⟨rfl, hr7, hc7⟩; have HR7 := Lib.hid hr7; have HC7 := Lib.hid hc7; clear hr7 hc7)
  go_end0
  exact ⟨rfl, HR7.out, Blk.keep (LB.put HL.out (o + 0) x.a) HC7.out (by simp; exact hne1b), ((Chg.refl [bx, g] W).setCell (.inl (by simp)) _).trans (HC7.out.mono (by simp))⟩

set_option maxHeartbeats 4000000 in
theorem fourRead_0 (bx g o m cp : Nat) (x : ROp) (ws : List Int) (W : World) (h : RAt W bx { x with row := 0 }) (hl : LB W g ws) (hwf : ∀ z ∈ ws, 0 ≤ z ∧ z ≤ 4294967295) (hm : 4 ≤ m) (hmc : m ≤ cp) (hom : o + m ≤ ws.length) (hne1 : bx ≠ g) :
    Calls Try.prog 40 #[.pointer (some ⟨bx, 0, none⟩), .slice (some ⟨g, o, none⟩) m cp] W fun e W' => e = .returned (.tuple #[]) ∧ RAt W' bx { x with a := ws.getD (o + 0) 0 % 2, row := 1, i := 0 } ∧ LB W' g ws ∧ Chg [bx] W W' := by
  have HB : Hid (Blk W bx ({ x with row := 0 } : ROp).cells 45) := Lib.hid h
  have HL := Lib.hid hl
  have hj1 : o + 0 < ws.length := by omega
  have c1 : W.cell? ⟨g, o, none⟩ = some (.int .u32 (ws.getD (o + 0) 0)) := LB.word HL.out (o + 0) hj1
  have b1 : 0 ≤ ws.getD (o + 0) 0 ∧ ws.getD (o + 0) 0 ≤ 4294967295 := hwf _ (by rw [List.getD_eq_getElem?_getD, List.getElem?_eq_getElem hj1]; exact List.getElem_mem hj1)
  generalize ws.getD (o + 0) 0 = v1 at *
  have e11 : W.cell? ⟨bx, 11, none⟩ = some (.int .i64 0) := HB.out.cell rfl
  have e16 : W.cell? ⟨bx, 16, none⟩ = some (.int .u32 x.a) := HB.out.cell rfl
  have f16 := HB.out.free 16
  have hm1 : 0 < m := by omega
  have hne1b : ¬ g = bx := fun hh => hne1 hh.symm
  clear h hl hwf hom hj1
  go_enter Try.func40, Try.ntmps40
  go_wp2_with (go_at_call 68; refine (to_any bx ({ x with a := v1 % 2, row := 0 } : ROp) 1 _ (HB.out.set 16 (.int .u32 (v1 % 2)))).mono ?_; rintro e W7 ⟨rfl, hr7, hc7⟩; have HR7 := Lib.hid hr7; have HC7 := Lib.hid hc7; clear hr7 hc7)
  go_end0
  exact ⟨rfl, HR7.out, Blk.keep (Blk.set_ne HL.out hne1b _ _ _) HC7.out (by simp; exact hne1b), ((Chg.refl [bx] W).setCell (.inl (by simp)) _).trans HC7.out⟩

set_option maxHeartbeats 4000000 in
theorem fourRead_1 (bx g o m cp : Nat) (x : ROp) (ws : List Int) (W : World) (h : RAt W bx { x with row := 1 }) (hl : LB W g ws) (hwf : ∀ z ∈ ws, 0 ≤ z ∧ z ≤ 4294967295) (hm : 4 ≤ m) (hmc : m ≤ cp) (hom : o + m ≤ ws.length) (hne1 : bx ≠ g) :
    Calls Try.prog 40 #[.pointer (some ⟨bx, 0, none⟩), .slice (some ⟨g, o, none⟩) m cp] W fun e W' => e = .returned (.tuple #[]) ∧ RAt W' bx { x with row := 2, i := 0 } ∧ LB W' g (ws.set (o + 1) x.a) ∧ Chg [bx, g] W W' := by
  have HB : Hid (Blk W bx ({ x with row := 1 } : ROp).cells 45) := Lib.hid h
  have HL := Lib.hid hl
  have hj1 : o + 1 < ws.length := by omega
  have c1 : W.cell? ⟨g, o + 1, none⟩ = some (.int .u32 (ws.getD (o + 1) 0)) := LB.word HL.out (o + 1) hj1
  have b1 : 0 ≤ ws.getD (o + 1) 0 ∧ ws.getD (o + 1) 0 ≤ 4294967295 := hwf _ (by rw [List.getD_eq_getElem?_getD, List.getElem?_eq_getElem hj1]; exact List.getElem_mem hj1)
  generalize ws.getD (o + 1) 0 = v1 at *
  have e11 : W.cell? ⟨bx, 11, none⟩ = some (.int .i64 1) := HB.out.cell rfl
  have e16 : W.cell? ⟨bx, 16, none⟩ = some (.int .u32 x.a) := HB.out.cell rfl
  have g1 : W.frozen? ⟨g, o + 1, none⟩ = false := HL.out.free (o + 1)
  have hm1 : 1 < m := by omega
  have hne1b : ¬ g = bx := fun hh => hne1 hh.symm
  clear h hl hwf hom hj1
  go_enter Try.func40, Try.ntmps40
  go_wp2_with (go_at_call 68; refine (to_any bx ({ x with row := 1 } : ROp) 2 _ (Blk.set_ne HB.out hne1 _ _ _)).mono ?_; rintro e W7 ⟨rfl, hr7, hc7⟩; have HR7 := Lib.hid hr7; have HC7 := Lib.hid hc7; clear hr7 hc7)
  go_end0
  exact ⟨rfl, HR7.out, Blk.keep (LB.put HL.out (o + 1) x.a) HC7.out (by simp; exact hne1b), ((Chg.refl [bx, g] W).setCell (.inl (by simp)) _).trans (HC7.out.mono (by simp))⟩

set_option maxHeartbeats 4000000 in
theorem fourRead_2_0 (bx g o m cp : Nat) (x : ROp) (ws : List Int) (W : World) (h : RAt W bx { x with row := 2, a := 0 }) (hl : LB W g ws) (hwf : ∀ z ∈ ws, 0 ≤ z ∧ z ≤ 4294967295) (hm : 4 ≤ m) (hmc : m ≤ cp) (hom : o + m ≤ ws.length) (hne1 : bx ≠ g) :
    Calls Try.prog 40 #[.pointer (some ⟨bx, 0, none⟩), .slice (some ⟨g, o, none⟩) m cp] W fun e W' => e = .returned (.tuple #[]) ∧ RAt W' bx { x with a := 0, b := ws.getD (o + 2) 0 % 2, row := 3, i := 0 } ∧ LB W' g ws ∧ Chg [bx] W W' := by
  have HB : Hid (Blk W bx ({ x with row := 2, a := 0 } : ROp).cells 45) := Lib.hid h
  have HL := Lib.hid hl
  have hj1 : o + 2 < ws.length := by omega
  have c1 : W.cell? ⟨g, o + 2, none⟩ = some (.int .u32 (ws.getD (o + 2) 0)) := LB.word HL.out (o + 2) hj1
  have b1 : 0 ≤ ws.getD (o + 2) 0 ∧ ws.getD (o + 2) 0 ≤ 4294967295 := hwf _ (by rw [List.getD_eq_getElem?_getD, List.getElem?_eq_getElem hj1]; exact List.getElem_mem hj1)
  generalize ws.getD (o + 2) 0 = v1 at *
  have e11 : W.cell? ⟨bx, 11, none⟩ = some (.int .i64 2) := HB.out.cell rfl
  have e16 : W.cell? ⟨bx, 16, none⟩ = some (.int .u32 0) := HB.out.cell rfl
  have e17 : W.cell? ⟨bx, 17, none⟩ = some (.int .u32 x.b) := HB.out.cell rfl
  have f17 := HB.out.free 17
  have hm1 : 2 < m := by omega
  have hne1b : ¬ g = bx := fun hh => hne1 hh.symm
  clear h hl hwf hom hj1
  go_enter Try.func40, Try.ntmps40
  go_wp2_with (go_at_call 68; refine (to_any bx ({ x with a := 0, b := v1 % 2, row := 2 } : ROp) 3 _ (HB.out.set 17 (.int .u32 (v1 % 2)))).mono ?_; rintro e W7 ⟨rfl, hr7, hc7⟩; have HR7 := Lib.hid hr7; have HC7 := Lib.hid hc7; clear hr7 hc7)
  go_end0
  exact ⟨rfl, HR7.out, Blk.keep (Blk.set_ne HL.out hne1b _ _ _) HC7.out (by simp; exact hne1b), ((Chg.refl [bx] W).setCell (.inl (by simp)) _).trans HC7.out⟩

set_option maxHeartbeats 4000000 in
theorem fourRead_2_1 (bx g o m cp : Nat) (x : ROp) (ws : List Int) (W : World) (h : RAt W bx { x with row := 2, a := 1 }) (hl : LB W g ws) (hwf : ∀ z ∈ ws, 0 ≤ z ∧ z ≤ 4294967295) (hm : 4 ≤ m) (hmc : m ≤ cp) (hom : o + m ≤ ws.length) (hne1 : bx ≠ g) :
    Calls Try.prog 40 #[.pointer (some ⟨bx, 0, none⟩), .slice (some ⟨g, o, none⟩) m cp] W fun e W' => e = .returned (.tuple #[]) ∧ RAt W' bx { x with a := 1, b := ws.getD (o + 3) 0 % 2, row := 3, i := 0 } ∧ LB W' g ws ∧ Chg [bx] W W' := by
  have HB : Hid (Blk W bx ({ x with row := 2, a := 1 } : ROp).cells 45) := Lib.hid h
  have HL := Lib.hid hl
  have hj1 : o + 3 < ws.length := by omega
  have c1 : W.cell? ⟨g, o + 3, none⟩ = some (.int .u32 (ws.getD (o + 3) 0)) := LB.word HL.out (o + 3) hj1
  have b1 : 0 ≤ ws.getD (o + 3) 0 ∧ ws.getD (o + 3) 0 ≤ 4294967295 := hwf _ (by rw [List.getD_eq_getElem?_getD, List.getElem?_eq_getElem hj1]; exact List.getElem_mem hj1)
  generalize ws.getD (o + 3) 0 = v1 at *
  have e11 : W.cell? ⟨bx, 11, none⟩ = some (.int .i64 2) := HB.out.cell rfl
  have e16 : W.cell? ⟨bx, 16, none⟩ = some (.int .u32 1) := HB.out.cell rfl
  have e17 : W.cell? ⟨bx, 17, none⟩ = some (.int .u32 x.b) := HB.out.cell rfl
  have f17 := HB.out.free 17
  have hm1 : 3 < m := by omega
  have hne1b : ¬ g = bx := fun hh => hne1 hh.symm
  clear h hl hwf hom hj1
  go_enter Try.func40, Try.ntmps40
  go_wp2_with (go_at_call 68; refine (to_any bx ({ x with a := 1, b := v1 % 2, row := 2 } : ROp) 3 _ (HB.out.set 17 (.int .u32 (v1 % 2)))).mono ?_; rintro e W7 ⟨rfl, hr7, hc7⟩; have HR7 := Lib.hid hr7; have HC7 := Lib.hid hc7; clear hr7 hc7)
  go_end0
  exact ⟨rfl, HR7.out, Blk.keep (Blk.set_ne HL.out hne1b _ _ _) HC7.out (by simp; exact hne1b), ((Chg.refl [bx] W).setCell (.inl (by simp)) _).trans HC7.out⟩
end Go.Proofs.Ytjplamoofkcojaa.rop

/- The reference's operation: the kind of four slots: the rows that are words of a record, and the row that tells the slot. -/
namespace Go.Proofs.Ytjplamoofkcojaa.rop
open Go Go.RowKit Go.Proofs.Ytjplamoofkcojaa.kit Go.Proofs.Ytjplamoofkcojaa.obj
set_option linter.unusedVariables false
set_option linter.unusedSimpArgs false
set_option maxRecDepth 20000

set_option maxHeartbeats 4000000 in
theorem fourWrite_3_0 (bx g o m cp : Nat) (x : ROp) (ws : List Int) (W : World) (h : RAt W bx { x with row := 3, a := 0 }) (hl : LB W g ws) (hwf : ∀ z ∈ ws, 0 ≤ z ∧ z ≤ 4294967295) (hm : 4 ≤ m) (hmc : m ≤ cp) (hom : o + m ≤ ws.length) (hne1 : bx ≠ g) :
    Calls Try.prog 39 #[.pointer (some ⟨bx, 0, none⟩), .slice (some ⟨g, o, none⟩) m cp] W fun e W' => e = .returned (.tuple #[]) ∧ RAt W' bx { x with a := 0, row := 4, i := 0 } ∧ LB W' g (ws.set (o + 2) x.b) ∧ Chg [bx, g] W W' := by
  have HB : Hid (Blk W bx ({ x with row := 3, a := 0 } : ROp).cells 45) := Lib.hid h
  have HL := Lib.hid hl
  have hj1 : o + 2 < ws.length := by omega
  have e11 : W.cell? ⟨bx, 11, none⟩ = some (.int .i64 3) := HB.out.cell rfl
  have hm1 : 2 < m := by omega
  have hne1b : ¬ g = bx := fun hh => hne1 hh.symm
  have HJ := Lib.hid hj1
  clear h hl hwf hom hj1
  go_enter Try.func39, Try.ntmps39
  go_wp2_with fail
  have e16 : W.cell? ⟨bx, 16, none⟩ = some (.int .u32 0) := HB.out.cell rfl
  have e17 : W.cell? ⟨bx, 17, none⟩ = some (.int .u32 x.b) := HB.out.cell rfl
  have KEEP := Lib.hid (fun (V : World) (h : Chg [] W V) => (⟨h.keep e16 (by simp), h.keep e17 (by simp), Lib.hid h⟩ : (fun V : World => V.cell? ⟨bx, 16, none⟩ = some (.int .u32 0) ∧ V.cell? ⟨bx, 17, none⟩ = some (.int .u32 x.b) ∧ Hid (Chg [] W V)) V))
  clear e16 e17
  have hHeld : (fun V : World => V.cell? ⟨bx, 16, none⟩ = some (.int .u32 0) ∧ V.cell? ⟨bx, 17, none⟩ = some (.int .u32 x.b) ∧ Hid (Chg [] W V)) W.drew := KEEP.out _ (Chg.refl _ _).drew
  have hw1 : IntKind.u32.wrap (2 + 0) = 2 := by rw [IntKind.wrap_u32']; rfl
  have hw2 : IntKind.u32.wrap 2 = 2 := by rw [IntKind.wrap_u32']; rfl
  have hm1i : (2 : Int) < (m : Int) := by omega
  refine wp_region_planT (fun V : World => V.cell? ⟨bx, 16, none⟩ = some (.int .u32 0) ∧ V.cell? ⟨bx, 17, none⟩ = some (.int .u32 x.b) ∧ Hid (Chg [] W V)) 11 [(0, true, some 54), (1, true, some 55), (2, true, some 56), (3, true, some 57), (4, true, some 58), (5, true, some 59), (6, true, some 60), (7, true, some 61), (8, true, some 62), (9, true, some 63), (10, true, some 64)] (by kernel_rfl) (by kernel_rfl) (by kernel_rfl) (by kernel_rfl) (by kernel_rfl) (fun d c a v w h => by cases d <;> exact h) hHeld ?_
  repeat (refine planT_read (v := ?_) rfl rfl ?_ ?_ ?_; rotate_left; (focus rfl); (focus (intro u hSw; (try dsimp only at hSw); go_simp; (try with_reducible rfl))); (try simp only [Act.put, List.setIfInBounds_toArray, List.set_cons_zero, List.set_cons_succ]))
  have g0 : W.cell? ⟨g, o + 2, none⟩ = some (.int .u32 (ws.getD (o + 2) 0)) := LB.word HL.out (o + 2) HJ.out
  have g1 : W.frozen? ⟨g, o + 2, none⟩ = false := HL.out.free (o + 2)
  refine planT_last rfl ?_ (fun K hK => ?_)
  · rfl
  go_simp
  refine hK.out _ _ ?_
  clear hK K hHeld KEEP
  go_wp2_with (go_at_call 68; refine (to_any bx ({ x with row := 3, a := 0 } : ROp) 4 _ (Blk.drew (Blk.set_ne HB.out hne1 _ _ _))).mono ?_; rintro e W7 ⟨rfl, hr7, hc7⟩; have HR7 := Lib.hid hr7; have HC7 := Lib.hid hc7; clear hr7 hc7)
  go_end0
  exact ⟨rfl, HR7.out, Blk.keep (Blk.drew (LB.put HL.out (o + 2) x.b)) HC7.out (by simp; exact hne1b), (((Chg.refl [bx, g] W).setCell (.inl (by simp)) _).drew).trans (HC7.out.mono (by simp))⟩

set_option maxHeartbeats 4000000 in
theorem fourWrite_3_1 (bx g o m cp : Nat) (x : ROp) (ws : List Int) (W : World) (h : RAt W bx { x with row := 3, a := 1 }) (hl : LB W g ws) (hwf : ∀ z ∈ ws, 0 ≤ z ∧ z ≤ 4294967295) (hm : 4 ≤ m) (hmc : m ≤ cp) (hom : o + m ≤ ws.length) (hne1 : bx ≠ g) :
    Calls Try.prog 39 #[.pointer (some ⟨bx, 0, none⟩), .slice (some ⟨g, o, none⟩) m cp] W fun e W' => e = .returned (.tuple #[]) ∧ RAt W' bx { x with a := 1, row := 4, i := 0 } ∧ LB W' g (ws.set (o + 3) x.b) ∧ Chg [bx, g] W W' := by
  have HB : Hid (Blk W bx ({ x with row := 3, a := 1 } : ROp).cells 45) := Lib.hid h
  have HL := Lib.hid hl
  have hj1 : o + 3 < ws.length := by omega
  have e11 : W.cell? ⟨bx, 11, none⟩ = some (.int .i64 3) := HB.out.cell rfl
  have hm1 : 3 < m := by omega
  have hne1b : ¬ g = bx := fun hh => hne1 hh.symm
  have HJ := Lib.hid hj1
  clear h hl hwf hom hj1
  go_enter Try.func39, Try.ntmps39
  go_wp2_with fail
  have e16 : W.cell? ⟨bx, 16, none⟩ = some (.int .u32 1) := HB.out.cell rfl
  have e17 : W.cell? ⟨bx, 17, none⟩ = some (.int .u32 x.b) := HB.out.cell rfl
  have KEEP := Lib.hid (fun (V : World) (h : Chg [] W V) => (⟨h.keep e16 (by simp), h.keep e17 (by simp), Lib.hid h⟩ : (fun V : World => V.cell? ⟨bx, 16, none⟩ = some (.int .u32 1) ∧ V.cell? ⟨bx, 17, none⟩ = some (.int .u32 x.b) ∧ Hid (Chg [] W V)) V))
  clear e16 e17
  have hHeld : (fun V : World => V.cell? ⟨bx, 16, none⟩ = some (.int .u32 1) ∧ V.cell? ⟨bx, 17, none⟩ = some (.int .u32 x.b) ∧ Hid (Chg [] W V)) W.drew := KEEP.out _ (Chg.refl _ _).drew
  have hw1 : IntKind.u32.wrap (2 + 1) = 3 := by rw [IntKind.wrap_u32']; rfl
  have hw2 : IntKind.u32.wrap 3 = 3 := by rw [IntKind.wrap_u32']; rfl
  have hm1i : (3 : Int) < (m : Int) := by omega
  refine wp_region_planT (fun V : World => V.cell? ⟨bx, 16, none⟩ = some (.int .u32 1) ∧ V.cell? ⟨bx, 17, none⟩ = some (.int .u32 x.b) ∧ Hid (Chg [] W V)) 11 [(0, true, some 54), (1, true, some 55), (2, true, some 56), (3, true, some 57), (4, true, some 58), (5, true, some 59), (6, true, some 60), (7, true, some 61), (8, true, some 62), (9, true, some 63), (10, true, some 64)] (by kernel_rfl) (by kernel_rfl) (by kernel_rfl) (by kernel_rfl) (by kernel_rfl) (fun d c a v w h => by cases d <;> exact h) hHeld ?_
  repeat (refine planT_read (v := ?_) rfl rfl ?_ ?_ ?_; rotate_left; (focus rfl); (focus (intro u hSw; (try dsimp only at hSw); go_simp; (try with_reducible rfl))); (try simp only [Act.put, List.setIfInBounds_toArray, List.set_cons_zero, List.set_cons_succ]))
  have g0 : W.cell? ⟨g, o + 3, none⟩ = some (.int .u32 (ws.getD (o + 3) 0)) := LB.word HL.out (o + 3) HJ.out
  have g1 : W.frozen? ⟨g, o + 3, none⟩ = false := HL.out.free (o + 3)
  refine planT_last rfl ?_ (fun K hK => ?_)
  · rfl
  go_simp
  refine hK.out _ _ ?_
  clear hK K hHeld KEEP
  go_wp2_with (go_at_call 68; refine (to_any bx ({ x with row := 3, a := 1 } : ROp) 4 _ (Blk.drew (Blk.set_ne HB.out hne1 _ _ _))).mono ?_; rintro e W7 ⟨rfl, hr7, hc7⟩; have HR7 := Lib.hid hr7; have HC7 := Lib.hid hc7; clear hr7 hc7)
  go_end0
  exact ⟨rfl, HR7.out, Blk.keep (Blk.drew (LB.put HL.out (o + 3) x.b)) HC7.out (by simp; exact hne1b), (((Chg.refl [bx, g] W).setCell (.inl (by simp)) _).drew).trans (HC7.out.mono (by simp))⟩

theorem slot_ab {a b : Int} (ha : 0 ≤ a ∧ a ≤ 1) (hb : 0 ≤ b ∧ b ≤ 1) : IntKind.u32.wrap (IntKind.u32.wrap (2 * a) + b) = 2 * a + b := by
  rw [IntKind.wrap_u32', IntKind.wrap_u32']; omega
set_option maxHeartbeats 8000000 in
theorem fourWrite_2 (bx g rg o m cp iN rn rcap : Nat) (x : ROp) (ws : List Int) (rv : Int) (at_ : Nat) (W : World) (h : RAt W bx ({ x with row := 2, i := (iN : Int), rcd := .slice (some ⟨rg, 0, none⟩) rn rcap } : ROp)) (hl : LB W g ws) (hop : x.op = writesI x.k) (hrl : x.rl ≤ 100) (hw : 1 ≤ x.w ∧ x.w ≤ 8) (hi : iN ≤ 100) (hir : iN < rn)
    (ha : 0 ≤ x.a ∧ x.a ≤ 1) (hb : 0 ≤ x.b ∧ x.b ≤ 1) (hat : headI x.k x.rl + (2 * x.a + x.b) * x.w + iN = (at_ : Int)) (ham : at_ < m) (hmc : m ≤ cp) (hom : o + m ≤ ws.length)
    (hrv : W.cell? ⟨rg, iN, none⟩ = some (.int .u32 rv)) (hne1 : bx ≠ g) (hne2 : ¬ rg = bx) (hne3 : ¬ rg = g) :
    Calls Try.prog 39 #[.pointer (some ⟨bx, 0, none⟩), .slice (some ⟨g, o, none⟩) m cp] W fun e W' => e = .returned (.tuple #[]) ∧ RAt W' bx (if (iN : Int) + 1 < x.w then { ({ x with row := 2, i := (iN : Int), rcd := .slice (some ⟨rg, 0, none⟩) rn rcap } : ROp) with i := (iN : Int) + 1 } else { ({ x with row := 2, i := (iN : Int), rcd := .slice (some ⟨rg, 0, none⟩) rn rcap } : ROp) with row := 3, i := 0 }) ∧ LB W' g (ws.set (o + at_) rv) ∧ Chg [bx, g] W W' := by
  have HB : Hid (Blk W bx ({ x with row := 2, i := (iN : Int), rcd := .slice (some ⟨rg, 0, none⟩) rn rcap } : ROp).cells 45) := Lib.hid h
  have hword := fun (V : World) (hV : Chg [] W V) => word_write bx g rg { x with row := 2 } (2 * x.a + x.b) 3 o m cp iN rn rcap at_ ws rv V (Blk.keep HB.out hV (by simp)) (Blk.keep hl hV (by simp)) hop hrl hw hi hir ⟨by omega, by omega⟩ hat ham hmc hom (hV.keep hrv (by simp)) hne1 hne2 hne3
  have HWORD := Lib.hid hword
  have HSL := Lib.hid (slot_ab ha hb)
  have e11 : W.cell? ⟨bx, 11, none⟩ = some (.int .i64 2) := HB.out.cell rfl
  generalize hpost : (if (iN : Int) + 1 < x.w then { ({ x with row := 2, i := (iN : Int), rcd := .slice (some ⟨rg, 0, none⟩) rn rcap } : ROp) with i := (iN : Int) + 1 } else { ({ x with row := 2, i := (iN : Int), rcd := .slice (some ⟨rg, 0, none⟩) rn rcap } : ROp) with row := 3, i := 0 }) = yy
  have HPOST := Lib.hid hpost
  clear h hl hop hrl hrv hat hword hom hpost
  go_enter Try.func39, Try.ntmps39
  go_wp2_with fail
  have e16 : W.cell? ⟨bx, 16, none⟩ = some (.int .u32 x.a) := HB.out.cell rfl
  have e17 : W.cell? ⟨bx, 17, none⟩ = some (.int .u32 x.b) := HB.out.cell rfl
  have KEEP := Lib.hid (fun (V : World) (h : Chg [] W V) => (⟨h.keep e16 (by simp), h.keep e17 (by simp), Lib.hid h⟩ : (fun V : World => V.cell? ⟨bx, 16, none⟩ = some (.int .u32 x.a) ∧ V.cell? ⟨bx, 17, none⟩ = some (.int .u32 x.b) ∧ Hid (Chg [] W V)) V))
  clear e16 e17
  have hHeld : (fun V : World => V.cell? ⟨bx, 16, none⟩ = some (.int .u32 x.a) ∧ V.cell? ⟨bx, 17, none⟩ = some (.int .u32 x.b) ∧ Hid (Chg [] W V)) W.drew := KEEP.out _ (Chg.refl _ _).drew
  refine wp_region_planT (fun V : World => V.cell? ⟨bx, 16, none⟩ = some (.int .u32 x.a) ∧ V.cell? ⟨bx, 17, none⟩ = some (.int .u32 x.b) ∧ Hid (Chg [] W V)) 12 [(0, true, some 39), (1, true, some 40), (2, true, some 41), (3, true, some 42), (4, true, some 43), (5, true, some 44), (6, true, some 45), (7, true, some 46), (8, true, some 47), (9, true, some 48), (10, true, some 49), (11, true, some 50)] (by kernel_rfl) (by kernel_rfl) (by kernel_rfl) (by kernel_rfl) (by kernel_rfl) (fun d c a v w h => by cases d <;> exact h) hHeld ?_
  repeat (refine planT_read (v := ?_) rfl rfl ?_ ?_ ?_; rotate_left; (focus rfl); (focus (intro u hSw; (try dsimp only at hSw); go_simp; (try with_reducible rfl))); (try simp only [Act.put, List.setIfInBounds_toArray, List.set_cons_zero, List.set_cons_succ]))
  rw [HSL.out]
  refine planT_last rfl ?_ (fun K hK => ?_)
  · rfl
  go_simp
  refine (HWORD.out _ (Chg.refl _ _).drew).mono ?_
  rintro e W7 ⟨rfl, hr7, hl7, hc7⟩
  refine hK.out _ _ ?_
  have HR7 := Lib.hid hr7
  have HL7 := Lib.hid hl7
  have HC7 := Lib.hid hc7
  clear hr7 hl7 hc7 hK K hHeld KEEP
  go_wp2_with fail
  go_end0
  refine ⟨rfl, ?_, HL7.out, ((Chg.refl [bx, g] W).drew).trans HC7.out⟩
  have h7 := HR7.out
  rw [if_neg (show ¬ ((3 : Int) < 0) by decide)] at h7
  rw [← HPOST.out]
  exact h7

set_option maxHeartbeats 8000000 in
theorem fourRead_3 (B bx g o m cp iN rn rcap : Nat) (x : ROp) (rp : Option Addr) (ws recs : List Int) (at_ : Nat) (W : World) (h : RAt W bx ({ x with row := 3, i := (iN : Int), rcd := .slice rp rn rcap } : ROp)) (hl : LB W g ws) (hop : x.op ≠ writesI x.k) (hrl : x.rl ≤ 100) (hw : 1 ≤ x.w ∧ x.w ≤ 8) (hi : iN ≤ 100)
    (hrn : recs.length = rn) (hrn2 : rn ≤ 1000) (ha : 0 ≤ x.a ∧ x.a ≤ 1) (hb : 0 ≤ x.b ∧ x.b ≤ 1) (hat : headI x.k x.rl + (2 * x.a + x.b) * x.w + iN = (at_ : Int)) (ham : at_ < m) (hmc : m ≤ cp) (hom : o + m ≤ ws.length)
    (hB : B ≤ W.heap.size) (hown : W.ownsRow B 22 1 (.slice rp rn rcap) rn (recs.map (Value.int .u32))) (hne1 : bx ≠ g) (hne2 : ∀ y, (Value.slice rp rn rcap).ownBlock = some y → y ≠ bx ∧ y ≠ g) :
    Calls Try.prog 40 #[.pointer (some ⟨bx, 0, none⟩), .slice (some ⟨g, o, none⟩) m cp] W fun e W' => ∃ v, e = .returned (.tuple #[]) ∧
      RAt W' bx (nextR { x with row := 3 } iN (-1) v) ∧ LB W' g ws ∧ W'.ownsRow B 22 1 v (rn + 1) ((recs ++ [ws.getD (o + at_) 0]).map (Value.int .u32)) ∧ (∀ y, v.ownBlock = some y → (Value.slice rp rn rcap).ownBlock = some y ∨ W.heap.size ≤ y) ∧ Chg (bx :: (Value.slice rp rn rcap).ownBlock.toList) W W' := by
  have HB : Hid (Blk W bx ({ x with row := 3, i := (iN : Int), rcd := .slice rp rn rcap } : ROp).cells 45) := Lib.hid h
  have hword := fun (V : World) (hV : Chg [] W V) => word_read B bx g { x with row := 3 } (2 * x.a + x.b) (-1) o m cp iN rn rcap at_ rp ws recs V (Blk.keep HB.out hV (by simp)) (Blk.keep hl hV (by simp)) hop hrl hw hi hrn hrn2 ⟨by omega, by omega⟩ hat ham hmc hom (Nat.le_trans hB hV.size) (own_chg hown hV (by simp)) hne1 hne2
  have HWORD := Lib.hid hword
  have HSL := Lib.hid (slot_ab ha hb)
  have e11 : W.cell? ⟨bx, 11, none⟩ = some (.int .i64 3) := HB.out.cell rfl
  have hdr : W.drew.heap.size = W.heap.size := rfl
  have HDR := Lib.hid hdr
  clear h hl hop hrl hat hword hom hown hrn hrn2 hB hne2 hdr
  go_enter Try.func40, Try.ntmps40
  go_wp2_with fail
  have e16 : W.cell? ⟨bx, 16, none⟩ = some (.int .u32 x.a) := HB.out.cell rfl
  have e17 : W.cell? ⟨bx, 17, none⟩ = some (.int .u32 x.b) := HB.out.cell rfl
  have KEEP := Lib.hid (fun (V : World) (h : Chg [] W V) => (⟨h.keep e16 (by simp), h.keep e17 (by simp), Lib.hid h⟩ : (fun V : World => V.cell? ⟨bx, 16, none⟩ = some (.int .u32 x.a) ∧ V.cell? ⟨bx, 17, none⟩ = some (.int .u32 x.b) ∧ Hid (Chg [] W V)) V))
  clear e16 e17
  have hHeld : (fun V : World => V.cell? ⟨bx, 16, none⟩ = some (.int .u32 x.a) ∧ V.cell? ⟨bx, 17, none⟩ = some (.int .u32 x.b) ∧ Hid (Chg [] W V)) W.drew := KEEP.out _ (Chg.refl _ _).drew
  refine wp_region_planT (fun V : World => V.cell? ⟨bx, 16, none⟩ = some (.int .u32 x.a) ∧ V.cell? ⟨bx, 17, none⟩ = some (.int .u32 x.b) ∧ Hid (Chg [] W V)) 12 [(0, true, some 47), (1, true, some 48), (2, true, some 49), (3, true, some 50), (4, true, some 51), (5, true, some 52), (6, true, some 53), (7, true, some 54), (8, true, some 55), (9, true, some 56), (10, true, some 57), (11, true, some 58)] (by kernel_rfl) (by kernel_rfl) (by kernel_rfl) (by kernel_rfl) (by kernel_rfl) (fun d c a v w h => by cases d <;> exact h) hHeld ?_
  repeat (refine planT_read (v := ?_) rfl rfl ?_ ?_ ?_; rotate_left; (focus rfl); (focus (intro u hSw; (try dsimp only at hSw); go_simp; (try with_reducible rfl))); (try simp only [Act.put, List.setIfInBounds_toArray, List.set_cons_zero, List.set_cons_succ]))
  rw [HSL.out]
  refine planT_last rfl ?_ (fun K hK => ?_)
  · rfl
  go_simp
  refine (HWORD.out _ (Chg.refl _ _).drew).mono ?_
  rintro e W7 ⟨v7, rfl, hr7, hl7, ho7, hv7, hc7⟩
  refine hK.out _ _ ?_
  have HR7 := Lib.hid hr7
  have HL7 := Lib.hid hl7
  have HO7 := Lib.hid ho7
  have HV7 := Lib.hid hv7
  have HC7 := Lib.hid hc7
  clear hr7 hl7 hc7 ho7 hv7 hK K hHeld KEEP
  go_wp2_with fail
  go_end0
  exact ⟨v7, rfl, HR7.out, HL7.out, HO7.out, HV7.out, ((Chg.refl _ W).drew).trans HC7.out⟩
end Go.Proofs.Ytjplamoofkcojaa.rop
