/- The reference's operation: the kind of four slots: the rows that are no words of a record. -/
import Derived.Test.YtapaolaemkhbdaaDoorRopA
namespace Go.Proofs.YtapaolaemkhbdaaDoor.rop
open Go Go.RowKit Go.Proofs.YtapaolaemkhbdaaDoor.kit Go.Proofs.YtapaolaemkhbdaaDoor.obj
set_option linter.unusedVariables false
set_option linter.unusedSimpArgs false
set_option maxRecDepth 20000

theorem LB.word {W : World} {g : Nat} {ws : List Int} (h : LB W g ws) (j : Nat) (hj : j < ws.length) : W.cell? ⟨g, j, none⟩ = some (.int .u32 (ws.getD j 0)) := Blk.cell h (by simp [List.getD, hj])

set_option maxHeartbeats 4000000 in
theorem fourWrite_0 (bx g o m cp : Nat) (x : ROp) (ws : List Int) (W : World) (h : RAt W bx { x with row := 0 }) (hl : LB W g ws) (hwf : ∀ z ∈ ws, 0 ≤ z ∧ z ≤ 4294967295) (hm : 4 ≤ m) (hmc : m ≤ cp) (hom : o + m ≤ ws.length) (hne1 : bx ≠ g) :
    Calls Tryd.prog 74 #[.pointer (some ⟨bx, 0, none⟩), .slice (some ⟨g, o, none⟩) m cp] W fun e W' => e = .returned (.tuple #[]) ∧ RAt W' bx { x with a := (ws.getD (o + 1) 0 + 1) % 2, row := 1, i := 0 } ∧ LB W' g ws ∧ Chg [bx] W W' := by
  have HB : Hid (Blk W bx ({ x with row := 0 } : ROp).cells 62) := Lib.hid h
  have HL := Lib.hid hl
  have hj1 : o + 1 < ws.length := by omega
  have c1 : W.cell? ⟨g, o + 1, none⟩ = some (.int .u32 (ws.getD (o + 1) 0)) := LB.word HL.out (o + 1) hj1
  have b1 : 0 ≤ ws.getD (o + 1) 0 ∧ ws.getD (o + 1) 0 ≤ 4294967295 := hwf _ (by rw [List.getD_eq_getElem?_getD, List.getElem?_eq_getElem hj1]; exact List.getElem_mem hj1)
  generalize ws.getD (o + 1) 0 = v1 at *
  have e11 : W.cell? ⟨bx, 11, none⟩ = some (.int .i64 0) := HB.out.cell rfl
  have e16 : W.cell? ⟨bx, 16, none⟩ = some (.int .u32 x.a) := HB.out.cell rfl
  have f16 := HB.out.free 16
  have hm1 : 1 < m := by omega
  have hne1b : ¬ g = bx := fun hh => hne1 hh.symm
  clear h hl hwf hom hj1
  go_enter Tryd.func74, Tryd.ntmps74
  go_wp2_with (go_at_call 104; refine (to_any bx ({ x with a := (v1 + 1) % 2, row := 0 } : ROp) 1 _ (HB.out.set 16 (.int .u32 ((v1 + 1) % 2)))).mono ?_; rintro e W7 ⟨rfl, hr7, hc7⟩; have HR7 := Lib.hid hr7; have HC7 := Lib.hid hc7; clear hr7 hc7)
  go_end0
  exact ⟨rfl, HR7.out, Blk.keep (Blk.set_ne HL.out hne1b _ _ _) HC7.out (by simp; exact hne1b), ((Chg.refl [bx] W).setCell (.inl (by simp)) _).trans HC7.out⟩

set_option maxHeartbeats 4000000 in
theorem fourWrite_1_0 (bx g o m cp : Nat) (x : ROp) (ws : List Int) (W : World) (h : RAt W bx { x with row := 1, a := 0 }) (hl : LB W g ws) (hwf : ∀ z ∈ ws, 0 ≤ z ∧ z ≤ 4294967295) (hm : 4 ≤ m) (hmc : m ≤ cp) (hom : o + m ≤ ws.length) (hne1 : bx ≠ g) :
    Calls Tryd.prog 74 #[.pointer (some ⟨bx, 0, none⟩), .slice (some ⟨g, o, none⟩) m cp] W fun e W' => e = .returned (.tuple #[]) ∧ RAt W' bx { x with a := 0, b := (ws.getD (o + 2) 0 + 1) % 2, row := 2, i := 0 } ∧ LB W' g ws ∧ Chg [bx] W W' := by
  have HB : Hid (Blk W bx ({ x with row := 1, a := 0 } : ROp).cells 62) := Lib.hid h
  have HL := Lib.hid hl
  have hj1 : o + 2 < ws.length := by omega
  have c1 : W.cell? ⟨g, o + 2, none⟩ = some (.int .u32 (ws.getD (o + 2) 0)) := LB.word HL.out (o + 2) hj1
  have b1 : 0 ≤ ws.getD (o + 2) 0 ∧ ws.getD (o + 2) 0 ≤ 4294967295 := hwf _ (by rw [List.getD_eq_getElem?_getD, List.getElem?_eq_getElem hj1]; exact List.getElem_mem hj1)
  generalize ws.getD (o + 2) 0 = v1 at *
  have e11 : W.cell? ⟨bx, 11, none⟩ = some (.int .i64 1) := HB.out.cell rfl
  have e16 : W.cell? ⟨bx, 16, none⟩ = some (.int .u32 0) := HB.out.cell rfl
  have e17 : W.cell? ⟨bx, 17, none⟩ = some (.int .u32 x.b) := HB.out.cell rfl
  have f17 := HB.out.free 17
  have hm1 : 2 < m := by omega
  have hne1b : ¬ g = bx := fun hh => hne1 hh.symm
  clear h hl hwf hom hj1
  go_enter Tryd.func74, Tryd.ntmps74
  go_wp2_with (go_at_call 104; refine (to_any bx ({ x with a := 0, b := (v1 + 1) % 2, row := 1 } : ROp) 2 _ (HB.out.set 17 (.int .u32 ((v1 + 1) % 2)))).mono ?_; rintro e W7 ⟨rfl, hr7, hc7⟩; have HR7 := Lib.hid hr7; have HC7 := Lib.hid hc7; clear hr7 hc7)
  go_end0
  exact ⟨rfl, HR7.out, Blk.keep (Blk.set_ne HL.out hne1b _ _ _) HC7.out (by simp; exact hne1b), ((Chg.refl [bx] W).setCell (.inl (by simp)) _).trans HC7.out⟩

set_option maxHeartbeats 4000000 in
theorem fourWrite_1_1 (bx g o m cp : Nat) (x : ROp) (ws : List Int) (W : World) (h : RAt W bx { x with row := 1, a := 1 }) (hl : LB W g ws) (hwf : ∀ z ∈ ws, 0 ≤ z ∧ z ≤ 4294967295) (hm : 4 ≤ m) (hmc : m ≤ cp) (hom : o + m ≤ ws.length) (hne1 : bx ≠ g) :
    Calls Tryd.prog 74 #[.pointer (some ⟨bx, 0, none⟩), .slice (some ⟨g, o, none⟩) m cp] W fun e W' => e = .returned (.tuple #[]) ∧ RAt W' bx { x with a := 1, b := (ws.getD (o + 3) 0 + 1) % 2, row := 2, i := 0 } ∧ LB W' g ws ∧ Chg [bx] W W' := by
  have HB : Hid (Blk W bx ({ x with row := 1, a := 1 } : ROp).cells 62) := Lib.hid h
  have HL := Lib.hid hl
  have hj1 : o + 3 < ws.length := by omega
  have c1 : W.cell? ⟨g, o + 3, none⟩ = some (.int .u32 (ws.getD (o + 3) 0)) := LB.word HL.out (o + 3) hj1
  have b1 : 0 ≤ ws.getD (o + 3) 0 ∧ ws.getD (o + 3) 0 ≤ 4294967295 := hwf _ (by rw [List.getD_eq_getElem?_getD, List.getElem?_eq_getElem hj1]; exact List.getElem_mem hj1)
  generalize ws.getD (o + 3) 0 = v1 at *
  have e11 : W.cell? ⟨bx, 11, none⟩ = some (.int .i64 1) := HB.out.cell rfl
  have e16 : W.cell? ⟨bx, 16, none⟩ = some (.int .u32 1) := HB.out.cell rfl
  have e17 : W.cell? ⟨bx, 17, none⟩ = some (.int .u32 x.b) := HB.out.cell rfl
  have f17 := HB.out.free 17
  have hm1 : 3 < m := by omega
  have hne1b : ¬ g = bx := fun hh => hne1 hh.symm
  clear h hl hwf hom hj1
  go_enter Tryd.func74, Tryd.ntmps74
  go_wp2_with (go_at_call 104; refine (to_any bx ({ x with a := 1, b := (v1 + 1) % 2, row := 1 } : ROp) 2 _ (HB.out.set 17 (.int .u32 ((v1 + 1) % 2)))).mono ?_; rintro e W7 ⟨rfl, hr7, hc7⟩; have HR7 := Lib.hid hr7; have HC7 := Lib.hid hc7; clear hr7 hc7)
  go_end0
  exact ⟨rfl, HR7.out, Blk.keep (Blk.set_ne HL.out hne1b _ _ _) HC7.out (by simp; exact hne1b), ((Chg.refl [bx] W).setCell (.inl (by simp)) _).trans HC7.out⟩

set_option maxHeartbeats 4000000 in
theorem fourWrite_4 (bx g o m cp : Nat) (x : ROp) (ws : List Int) (W : World) (h : RAt W bx { x with row := 4 }) (hl : LB W g ws) (hwf : ∀ z ∈ ws, 0 ≤ z ∧ z ≤ 4294967295) (hm : 4 ≤ m) (hmc : m ≤ cp) (hom : o + m ≤ ws.length) (hne1 : bx ≠ g) :
    Calls Tryd.prog 74 #[.pointer (some ⟨bx, 0, none⟩), .slice (some ⟨g, o, none⟩) m cp] W fun e W' => e = .returned (.tuple #[]) ∧ RAt W' bx (({ x with row := 4 } : ROp).ended 0) ∧ LB W' g (ws.set (o + 0) x.a) ∧ Chg [bx, g] W W' := by
  have HB : Hid (Blk W bx ({ x with row := 4 } : ROp).cells 62) := Lib.hid h
  have HL := Lib.hid hl
  have hj1 : o + 0 < ws.length := by omega
  have c1 : W.cell? ⟨g, o, none⟩ = some (.int .u32 (ws.getD (o + 0) 0)) := LB.word HL.out (o + 0) hj1
  have b1 : 0 ≤ ws.getD (o + 0) 0 ∧ ws.getD (o + 0) 0 ≤ 4294967295 := hwf _ (by rw [List.getD_eq_getElem?_getD, List.getElem?_eq_getElem hj1]; exact List.getElem_mem hj1)
  generalize ws.getD (o + 0) 0 = v1 at *
  have e11 : W.cell? ⟨bx, 11, none⟩ = some (.int .i64 4) := HB.out.cell rfl
  have e16 : W.cell? ⟨bx, 16, none⟩ = some (.int .u32 x.a) := HB.out.cell rfl
  have g1 : W.frozen? ⟨g, o, none⟩ = false := HL.out.free (o + 0)
  have hm1 : 0 < m := by omega
  have hne1b : ¬ g = bx := fun hh => hne1 hh.symm
  clear h hl hwf hom hj1
  go_enter Tryd.func74, Tryd.ntmps74
  go_wp2_with (go_at_call 106; refine (end_any bx ({ x with row := 4 } : ROp) 0 _ (Blk.set_ne HB.out hne1 _ _ _)).mono ?_; rintro e W7 ⟨rfl, hr7, hc7⟩; have HR7 := Lib.hid hr7; have HC7 := Lib.hid hc7; clear hr7 hc7)
  go_end0
  exact ⟨rfl, HR7.out, Blk.keep (LB.put HL.out (o + 0) x.a) HC7.out (by simp; exact hne1b), ((Chg.refl [bx, g] W).setCell (.inl (by simp)) _).trans (HC7.out.mono (by simp))⟩

set_option maxHeartbeats 4000000 in
theorem fourRead_0 (bx g o m cp : Nat) (x : ROp) (ws : List Int) (W : World) (h : RAt W bx { x with row := 0 }) (hl : LB W g ws) (hwf : ∀ z ∈ ws, 0 ≤ z ∧ z ≤ 4294967295) (hm : 4 ≤ m) (hmc : m ≤ cp) (hom : o + m ≤ ws.length) (hne1 : bx ≠ g) :
    Calls Tryd.prog 75 #[.pointer (some ⟨bx, 0, none⟩), .slice (some ⟨g, o, none⟩) m cp] W fun e W' => e = .returned (.tuple #[]) ∧ RAt W' bx { x with a := ws.getD (o + 0) 0 % 2, row := 1, i := 0 } ∧ LB W' g ws ∧ Chg [bx] W W' := by
  have HB : Hid (Blk W bx ({ x with row := 0 } : ROp).cells 62) := Lib.hid h
  have HL := Lib.hid hl
  have hj1 : o + 0 < ws.length := by omega
  have c1 : W.cell? ⟨g, o, none⟩ = some (.int .u32 (ws.getD (o + 0) 0)) := LB.word HL.out (o + 0) hj1
  have b1 : 0 ≤ ws.getD (o + 0) 0 ∧ ws.getD (o + 0) 0 ≤ 4294967295 := hwf _ (by rw [List.getD_eq_getElem?_getD, List.getElem?_eq_getElem hj1]; exact List.getElem_mem hj1)
  generalize ws.getD (o + 0) 0 = v1 at *
  have e11 : W.cell? ⟨bx, 11, none⟩ = some (.int .i64 0) := HB.out.cell rfl
  have e16 : W.cell? ⟨bx, 16, none⟩ = some (.int .u32 x.a) := HB.out.cell rfl
  have f16 := HB.out.free 16
  have hm1 : 0 < m := by omega
  have hne1b : ¬ g = bx := fun hh => hne1 hh.symm
  clear h hl hwf hom hj1
  go_enter Tryd.func75, Tryd.ntmps75
  go_wp2_with (go_at_call 104; refine (to_any bx ({ x with a := v1 % 2, row := 0 } : ROp) 1 _ (HB.out.set 16 (.int .u32 (v1 % 2)))).mono ?_; rintro e W7 ⟨rfl, hr7, hc7⟩; have HR7 := Lib.hid hr7; have HC7 := Lib.hid hc7; clear hr7 hc7)
  go_end0
  exact ⟨rfl, HR7.out, Blk.keep (Blk.set_ne HL.out hne1b _ _ _) HC7.out (by simp; exact hne1b), ((Chg.refl [bx] W).setCell (.inl (by simp)) _).trans HC7.out⟩

set_option maxHeartbeats 4000000 in
theorem fourRead_1 (bx g o m cp : Nat) (x : ROp) (ws : List Int) (W : World) (h : RAt W bx { x with row := 1 }) (hl : LB W g ws) (hwf : ∀ z ∈ ws, 0 ≤ z ∧ z ≤ 4294967295) (hm : 4 ≤ m) (hmc : m ≤ cp) (hom : o + m ≤ ws.length) (hne1 : bx ≠ g) :
    Calls Tryd.prog 75 #[.pointer (some ⟨bx, 0, none⟩), .slice (some ⟨g, o, none⟩) m cp] W fun e W' => e = .returned (.tuple #[]) ∧ RAt W' bx { x with row := 2, i := 0 } ∧ LB W' g (ws.set (o + 1) x.a) ∧ Chg [bx, g] W W' := by
  have HB : Hid (Blk W bx ({ x with row := 1 } : ROp).cells 62) := Lib.hid h
  have HL := Lib.hid hl
  have hj1 : o + 1 < ws.length := by omega
  have c1 : W.cell? ⟨g, o + 1, none⟩ = some (.int .u32 (ws.getD (o + 1) 0)) := LB.word HL.out (o + 1) hj1
  have b1 : 0 ≤ ws.getD (o + 1) 0 ∧ ws.getD (o + 1) 0 ≤ 4294967295 := hwf _ (by rw [List.getD_eq_getElem?_getD, List.getElem?_eq_getElem hj1]; exact List.getElem_mem hj1)
  generalize ws.getD (o + 1) 0 = v1 at *
  have e11 : W.cell? ⟨bx, 11, none⟩ = some (.int .i64 1) := HB.out.cell rfl
  have e16 : W.cell? ⟨bx, 16, none⟩ = some (.int .u32 x.a) := HB.out.cell rfl
  have g1 : W.frozen? ⟨g, o + 1, none⟩ = false := HL.out.free (o + 1)
  have hm1 : 1 < m := by omega
  have hne1b : ¬ g = bx := fun hh => hne1 hh.symm
  clear h hl hwf hom hj1
  go_enter Tryd.func75, Tryd.ntmps75
  go_wp2_with (go_at_call 104; refine (to_any bx ({ x with row := 1 } : ROp) 2 _ (Blk.set_ne HB.out hne1 _ _ _)).mono ?_; rintro e W7 ⟨rfl, hr7, hc7⟩; have HR7 := Lib.hid hr7; have HC7 := Lib.hid hc7; clear hr7 hc7)
  go_end0
  exact ⟨rfl, HR7.out, Blk.keep (LB.put HL.out (o + 1) x.a) HC7.out (by simp; exact hne1b), ((Chg.refl [bx, g] W).setCell (.inl (by simp)) _).trans (HC7.out.mono (by simp))⟩

set_option maxHeartbeats 4000000 in
theorem fourRead_2_0 (bx g o m cp : Nat) (x : ROp) (ws : List Int) (W : World) (h : RAt W bx { x with row := 2, a := 0 }) (hl : LB W g ws) (hwf : ∀ z ∈ ws, 0 ≤ z ∧ z ≤ 4294967295) (hm : 4 ≤ m) (hmc : m ≤ cp) (hom : o + m ≤ ws.length) (hne1 : bx ≠ g) :
    Calls Tryd.prog 75 #[.pointer (some ⟨bx, 0, none⟩), .slice (some ⟨g, o, none⟩) m cp] W fun e W' => e = .returned (.tuple #[]) ∧ RAt W' bx { x with a := 0, b := ws.getD (o + 2) 0 % 2, row := 3, i := 0 } ∧ LB W' g ws ∧ Chg [bx] W W' := by
  have HB : Hid (Blk W bx ({ x with row := 2, a := 0 } : ROp).cells 62) := Lib.hid h
  have HL := Lib.hid hl
  have hj1 : o + 2 < ws.length := by omega
  have c1 : W.cell? ⟨g, o + 2, none⟩ = some (.int .u32 (ws.getD (o + 2) 0)) := LB.word HL.out (o + 2) hj1
  have b1 : 0 ≤ ws.getD (o + 2) 0 ∧ ws.getD (o + 2) 0 ≤ 4294967295 := hwf _ (by rw [List.getD_eq_getElem?_getD, List.getElem?_eq_getElem hj1]; exact List.getElem_mem hj1)
  generalize ws.getD (o + 2) 0 = v1 at *
  have e11 : W.cell? ⟨bx, 11, none⟩ = some (.int .i64 2) := HB.out.cell rfl
  have e16 : W.cell? ⟨bx, 16, none⟩ = some (.int .u32 0) := HB.out.cell rfl
  have e17 : W.cell? ⟨bx, 17, none⟩ = some (.int .u32 x.b) := HB.out.cell rfl
  have f17 := HB.out.free 17
  have hm1 : 2 < m := by omega
  have hne1b : ¬ g = bx := fun hh => hne1 hh.symm
  clear h hl hwf hom hj1
  go_enter Tryd.func75, Tryd.ntmps75
  go_wp2_with (go_at_call 104; refine (to_any bx ({ x with a := 0, b := v1 % 2, row := 2 } : ROp) 3 _ (HB.out.set 17 (.int .u32 (v1 % 2)))).mono ?_; rintro e W7 ⟨rfl, hr7, hc7⟩; have HR7 := Lib.hid hr7; have HC7 := Lib.hid hc7; clear hr7 hc7)
  go_end0
  exact ⟨rfl, HR7.out, Blk.keep (Blk.set_ne HL.out hne1b _ _ _) HC7.out (by simp; exact hne1b), ((Chg.refl [bx] W).setCell (.inl (by simp)) _).trans HC7.out⟩

set_option maxHeartbeats 4000000 in
theorem fourRead_2_1 (bx g o m cp : Nat) (x : ROp) (ws : List Int) (W : World) (h : RAt W bx { x with row := 2, a := 1 }) (hl : LB W g ws) (hwf : ∀ z ∈ ws, 0 ≤ z ∧ z ≤ 4294967295) (hm : 4 ≤ m) (hmc : m ≤ cp) (hom : o + m ≤ ws.length) (hne1 : bx ≠ g) :
    Calls Tryd.prog 75 #[.pointer (some ⟨bx, 0, none⟩), .slice (some ⟨g, o, none⟩) m cp] W fun e W' => e = .returned (.tuple #[]) ∧ RAt W' bx { x with a := 1, b := ws.getD (o + 3) 0 % 2, row := 3, i := 0 } ∧ LB W' g ws ∧ Chg [bx] W W' := by
  have HB : Hid (Blk W bx ({ x with row := 2, a := 1 } : ROp).cells 62) := Lib.hid h
  have HL := Lib.hid hl
  have hj1 : o + 3 < ws.length := by omega
  have c1 : W.cell? ⟨g, o + 3, none⟩ = some (.int .u32 (ws.getD (o + 3) 0)) := LB.word HL.out (o + 3) hj1
  have b1 : 0 ≤ ws.getD (o + 3) 0 ∧ ws.getD (o + 3) 0 ≤ 4294967295 := hwf _ (by rw [List.getD_eq_getElem?_getD, List.getElem?_eq_getElem hj1]; exact List.getElem_mem hj1)
  generalize ws.getD (o + 3) 0 = v1 at *
  have e11 : W.cell? ⟨bx, 11, none⟩ = some (.int .i64 2) := HB.out.cell rfl
  have e16 : W.cell? ⟨bx, 16, none⟩ = some (.int .u32 1) := HB.out.cell rfl
  have e17 : W.cell? ⟨bx, 17, none⟩ = some (.int .u32 x.b) := HB.out.cell rfl
  have f17 := HB.out.free 17
  have hm1 : 3 < m := by omega
  have hne1b : ¬ g = bx := fun hh => hne1 hh.symm
  clear h hl hwf hom hj1
  go_enter Tryd.func75, Tryd.ntmps75
  go_wp2_with (go_at_call 104; refine (to_any bx ({ x with a := 1, b := v1 % 2, row := 2 } : ROp) 3 _ (HB.out.set 17 (.int .u32 (v1 % 2)))).mono ?_; rintro e W7 ⟨rfl, hr7, hc7⟩; have HR7 := Lib.hid hr7; have HC7 := Lib.hid hc7; clear hr7 hc7)
  go_end0
  exact ⟨rfl, HR7.out, Blk.keep (Blk.set_ne HL.out hne1b _ _ _) HC7.out (by simp; exact hne1b), ((Chg.refl [bx] W).setCell (.inl (by simp)) _).trans HC7.out⟩
end Go.Proofs.YtapaolaemkhbdaaDoor.rop
