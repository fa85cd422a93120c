/- The reference's operation: rows of the kind of a sequence. -/
import Derived.Test.YtjplamoofkcojaaRefA
namespace Go.Proofs.Ytjplamoofkcojaa.ref
open Go Go.RowKit Go.Proofs.Ytjplamoofkcojaa.kit Go.Proofs.Ytjplamoofkcojaa.obj Go.Proofs.Ytjplamoofkcojaa.rop
set_option linter.unusedVariables false
set_option linter.unusedSimpArgs false
set_option maxRecDepth 20000
variable {tn : Nat}
set_option maxHeartbeats 4000000 in
theorem seqWrite_0 (bx g o m cp : Nat) (x : ROp) (ws : List Int) (W : World) (h : RAt W bx { x with row := 0 }) (hl : LT tn W g ws) (hwf : ∀ z ∈ ws, 0 ≤ z ∧ z ≤ 4294967295) (hm : 1 ≤ m) (hmc : m ≤ cp) (hom : o + m ≤ ws.length) (hne1 : bx ≠ g) :
    Calls Try.prog 43 #[.pointer (some ⟨bx, 0, none⟩), .slice (some ⟨g, o, none⟩) m cp] W fun e W' => e = .returned (.tuple #[]) ∧ RAt W' bx { x with a := ws.getD (o + 0) 0, row := 1, i := 0 } ∧ LT tn W' g ws ∧ Chg [bx] W W' := by
  have HB : Hid (Blk W bx ({ x with row := 0 } : ROp).cells 45) := Lib.hid h
  have HL := Lib.hid hl
  have hj1 : o + 0 < ws.length := by omega
  have c1 : W.cell? ⟨g, o, none⟩ = some (.int .u32 (ws.getD (o + 0) 0)) := LT.word HL.out (o + 0) hj1
  have b1 : 0 ≤ ws.getD (o + 0) 0 ∧ ws.getD (o + 0) 0 ≤ 4294967295 := hwf _ (by rw [List.getD_eq_getElem?_getD, List.getElem?_eq_getElem hj1]; exact List.getElem_mem hj1)
  generalize ws.getD (o + 0) 0 = v1 at *
  have e11 : W.cell? ⟨bx, 11, none⟩ = some (.int .i64 0) := HB.out.cell rfl
  have e16 : W.cell? ⟨bx, 16, none⟩ = some (.int .u32 x.a) := HB.out.cell rfl
  have f16 := HB.out.free 16
  have hm1 : 0 < m := by omega
  have hne1b : ¬ g = bx := fun hh => hne1 hh.symm
  have HLT9 := Lib.hid hj1
  clear h hl hwf hom hj1
  go_enter Try.func43, Try.ntmps43
  go_wp2_with (go_at_call 68; refine (to_any bx ({ x with a := v1, row := 0 } : ROp) 1 _ (HB.out.set 16 (.int .u32 (v1)))).mono ?_; rintro e W7 ⟨rfl, hr7, hc7⟩; have HR7 := Lib.hid hr7; have HC7 := Lib.hid hc7; clear hr7 hc7)
  go_end0
  exact ⟨rfl, HR7.out, LT.keep (LT.set_ne HL.out hne1b _ _ _) HC7.out (by simp; exact hne1b), ((Chg.refl [bx] W).setCell (.inl (by simp)) _).trans HC7.out⟩

set_option maxHeartbeats 4000000 in
theorem seqWrite_1 (bx g o m cp : Nat) (x : ROp) (ws : List Int) (W : World) (h : RAt W bx { x with row := 1 }) (hl : LT tn W g ws) (hwf : ∀ z ∈ ws, 0 ≤ z ∧ z ≤ 4294967295) (hm : 1 ≤ m) (hmc : m ≤ cp) (hom : o + m ≤ ws.length) (hne1 : bx ≠ g) :
    Calls Try.prog 43 #[.pointer (some ⟨bx, 0, none⟩), .slice (some ⟨g, o, none⟩) m cp] W fun e W' => e = .returned (.tuple #[]) ∧ RAt W' bx { x with row := 2, i := 0 } ∧ LT tn W' g (ws.set (o + 0) ((x.a + 1) % 4294967296)) ∧ Chg [bx, g] W W' := by
  have HB : Hid (Blk W bx ({ x with row := 1 } : ROp).cells 45) := Lib.hid h
  have HL := Lib.hid hl
  have hj1 : o + 0 < ws.length := by omega
  have c1 : W.cell? ⟨g, o, none⟩ = some (.int .u32 (ws.getD (o + 0) 0)) := LT.word HL.out (o + 0) hj1
  have b1 : 0 ≤ ws.getD (o + 0) 0 ∧ ws.getD (o + 0) 0 ≤ 4294967295 := hwf _ (by rw [List.getD_eq_getElem?_getD, List.getElem?_eq_getElem hj1]; exact List.getElem_mem hj1)
  generalize ws.getD (o + 0) 0 = v1 at *
  have e11 : W.cell? ⟨bx, 11, none⟩ = some (.int .i64 1) := HB.out.cell rfl
  have e16 : W.cell? ⟨bx, 16, none⟩ = some (.int .u32 x.a) := HB.out.cell rfl
  have g1 : W.frozen? ⟨g, o, none⟩ = false := HL.out.free (o + 0)
  have hm1 : 0 < m := by omega
  have hne1b : ¬ g = bx := fun hh => hne1 hh.symm
  have HLT9 := Lib.hid hj1
  clear h hl hwf hom hj1
  go_enter Try.func43, Try.ntmps43
  go_wp2_with (go_at_call 68; refine (to_any bx ({ x with row := 1 } : ROp) 2 _ (Blk.set_ne HB.out hne1 _ _ _)).mono ?_; rintro e W7 ⟨rfl, hr7, hc7⟩; have HR7 := Lib.hid hr7; have HC7 := Lib.hid hc7; clear hr7 hc7)
  go_end0
  exact ⟨rfl, HR7.out, LT.keep (LT.put HL.out (o + 0) ((x.a + 1) % 4294967296) (by first | exact HLT9.out | exact HJ.out | omega)) HC7.out (by simp; exact hne1b), ((Chg.refl [bx, g] W).setCell (.inl (by simp)) _).trans (HC7.out.mono (by simp))⟩

set_option maxHeartbeats 4000000 in
theorem seqWrite_3 (bx g o m cp : Nat) (x : ROp) (ws : List Int) (W : World) (h : RAt W bx { x with row := 3 }) (hl : LT tn W g ws) (hwf : ∀ z ∈ ws, 0 ≤ z ∧ z ≤ 4294967295) (hm : 1 ≤ m) (hmc : m ≤ cp) (hom : o + m ≤ ws.length) (hne1 : bx ≠ g) :
    Calls Try.prog 43 #[.pointer (some ⟨bx, 0, none⟩), .slice (some ⟨g, o, none⟩) m cp] W fun e W' => e = .returned (.tuple #[]) ∧ RAt W' bx (({ x with row := 3 } : ROp).ended 0) ∧ LT tn W' g (ws.set (o + 0) ((x.a + 2) % 4294967296)) ∧ Chg [bx, g] W W' := by
  have HB : Hid (Blk W bx ({ x with row := 3 } : ROp).cells 45) := Lib.hid h
  have HL := Lib.hid hl
  have hj1 : o + 0 < ws.length := by omega
  have c1 : W.cell? ⟨g, o, none⟩ = some (.int .u32 (ws.getD (o + 0) 0)) := LT.word HL.out (o + 0) hj1
  have b1 : 0 ≤ ws.getD (o + 0) 0 ∧ ws.getD (o + 0) 0 ≤ 4294967295 := hwf _ (by rw [List.getD_eq_getElem?_getD, List.getElem?_eq_getElem hj1]; exact List.getElem_mem hj1)
  generalize ws.getD (o + 0) 0 = v1 at *
  have e11 : W.cell? ⟨bx, 11, none⟩ = some (.int .i64 3) := HB.out.cell rfl
  have e16 : W.cell? ⟨bx, 16, none⟩ = some (.int .u32 x.a) := HB.out.cell rfl
  have g1 : W.frozen? ⟨g, o, none⟩ = false := HL.out.free (o + 0)
  have hm1 : 0 < m := by omega
  have hne1b : ¬ g = bx := fun hh => hne1 hh.symm
  have HLT9 := Lib.hid hj1
  clear h hl hwf hom hj1
  go_enter Try.func43, Try.ntmps43
  go_wp2_with (go_at_call 70; refine (end_any bx ({ x with row := 3 } : ROp) 0 _ (Blk.set_ne HB.out hne1 _ _ _)).mono ?_; rintro e W7 ⟨rfl, hr7, hc7⟩; have HR7 := Lib.hid hr7; have HC7 := Lib.hid hc7; clear hr7 hc7)
  go_end0
  exact ⟨rfl, HR7.out, LT.keep (LT.put HL.out (o + 0) ((x.a + 2) % 4294967296) (by first | exact HLT9.out | exact HJ.out | omega)) HC7.out (by simp; exact hne1b), ((Chg.refl [bx, g] W).setCell (.inl (by simp)) _).trans (HC7.out.mono (by simp))⟩

set_option maxHeartbeats 8000000 in
theorem seqWrite_2 (bx g rg o m cp iN rn rcap : Nat) (x : ROp) (ws : List Int) (rv : Int) (at_ : Nat) (W : World) (h : RAt W bx ({ x with row := 2, i := (iN : Int), rcd := .slice (some ⟨rg, 0, none⟩) rn rcap } : ROp)) (hl : LT tn W g ws) (hop : x.op = writesI x.k) (hrl : x.rl ≤ 100) (hw : 1 ≤ x.w ∧ x.w ≤ 8) (hi : iN ≤ 100) (hir : iN < rn)
    (hat : headI x.k x.rl + 0 * x.w + iN = (at_ : Int)) (ham : at_ < m) (hmc : m ≤ cp) (hom : o + m ≤ ws.length)
    (hrv : W.cell? ⟨rg, iN, none⟩ = some (.int .u32 rv)) (hne1 : bx ≠ g) (hne2 : ¬ rg = bx) (hne3 : ¬ rg = g) :
    Calls Try.prog 43 #[.pointer (some ⟨bx, 0, none⟩), .slice (some ⟨g, o, none⟩) m cp] W fun e W' => e = .returned (.tuple #[]) ∧ RAt W' bx (if (iN : Int) + 1 < x.w then { ({ x with row := 2, i := (iN : Int), rcd := .slice (some ⟨rg, 0, none⟩) rn rcap } : ROp) with i := (iN : Int) + 1 } else { ({ x with row := 2, i := (iN : Int), rcd := .slice (some ⟨rg, 0, none⟩) rn rcap } : ROp) with row := 3, i := 0 }) ∧ LT tn W' g (ws.set (o + at_) rv) ∧ Chg [bx, g] W W' := by
  have HB : Hid (Blk W bx ({ x with row := 2, i := (iN : Int), rcd := .slice (some ⟨rg, 0, none⟩) rn rcap } : ROp).cells 45) := Lib.hid h
  have hword := word_write bx g rg { x with row := 2 } 0 3 o m cp iN rn rcap at_ ws rv W HB.out hl hop hrl hw hi hir ⟨by omega, by omega⟩ hat ham hmc hom hrv hne1 hne2 hne3
  rw [if_neg (show ¬ ((3 : Int) < 0) by decide)] at hword
  have HWORD := Lib.hid hword
  have e11 : W.cell? ⟨bx, 11, none⟩ = some (.int .i64 2) := HB.out.cell rfl
  generalize hpost : (if (iN : Int) + 1 < x.w then { ({ x with row := 2, i := (iN : Int), rcd := .slice (some ⟨rg, 0, none⟩) rn rcap } : ROp) with i := (iN : Int) + 1 } else { ({ x with row := 2, i := (iN : Int), rcd := .slice (some ⟨rg, 0, none⟩) rn rcap } : ROp) with row := 3, i := 0 }) = yy
  have HPOST := Lib.hid hpost
  clear h hl hop hrl hrv hat hword hom hpost
  go_enter Try.func43, Try.ntmps43
  go_wp2_with (go_at_call 69; refine HWORD.out.mono ?_; rintro e W7 ⟨rfl, hr7, hl7, hc7⟩; have HR7 := Lib.hid hr7; have HL7 := Lib.hid hl7; have HC7 := Lib.hid hc7; clear hr7 hl7 hc7)
  go_end0
  exact ⟨rfl, by rw [← HPOST.out]; exact HR7.out, HL7.out, HC7.out⟩
set_option maxHeartbeats 8000000 in
theorem seqRead_1 (B bx g o m cp iN rn rcap : Nat) (x : ROp) (rp : Option Addr) (ws recs : List Int) (at_ : Nat) (W : World) (h : RAt W bx ({ x with row := 1, i := (iN : Int), rcd := .slice rp rn rcap } : ROp)) (hl : LT tn W g ws) (hop : x.op ≠ writesI x.k) (hrl : x.rl ≤ 100) (hw : 1 ≤ x.w ∧ x.w ≤ 8) (hi : iN ≤ 100)
    (hrn : recs.length = rn) (hrn2 : rn ≤ 1000) (hat : headI x.k x.rl + 0 * x.w + iN = (at_ : Int)) (ham : at_ < m) (hmc : m ≤ cp) (hom : o + m ≤ ws.length)
    (hB : B ≤ W.heap.size) (hown : W.ownsRow B 22 1 (.slice rp rn rcap) rn (recs.map (Value.int .u32))) (hne1 : bx ≠ g) (hne2 : ∀ y, (Value.slice rp rn rcap).ownBlock = some y → y ≠ bx ∧ y ≠ g) :
    Calls Try.prog 44 #[.pointer (some ⟨bx, 0, none⟩), .slice (some ⟨g, o, none⟩) m cp] W fun e W' => ∃ v, e = .returned (.tuple #[]) ∧
      RAt W' bx (nextR { x with row := 1 } iN 2 v) ∧ LT tn W' g ws ∧ W'.ownsRow B 22 1 v (rn + 1) ((recs ++ [ws.getD (o + at_) 0]).map (Value.int .u32)) ∧ (∀ y, v.ownBlock = some y → (Value.slice rp rn rcap).ownBlock = some y ∨ W.heap.size ≤ y) ∧ Chg (bx :: (Value.slice rp rn rcap).ownBlock.toList) W W' := by
  have HB : Hid (Blk W bx ({ x with row := 1, i := (iN : Int), rcd := .slice rp rn rcap } : ROp).cells 45) := Lib.hid h
  have HWORD := Lib.hid (word_read B bx g { x with row := 1 } 0 2 o m cp iN rn rcap at_ rp ws recs W HB.out hl hop hrl hw hi hrn hrn2 ⟨by omega, by omega⟩ hat ham hmc hom hB hown hne1 hne2)
  have e11 : W.cell? ⟨bx, 11, none⟩ = some (.int .i64 1) := HB.out.cell rfl
  clear h hl hop hrl hat hom hown hrn hrn2 hB hne2
  go_enter Try.func44, Try.ntmps44
  go_wp2_with (go_at_call 69; refine HWORD.out.mono ?_; rintro e W7 ⟨v7, rfl, hr7, hl7, ho7, hv7, hc7⟩; have HR7 := Lib.hid hr7; have HL7 := Lib.hid hl7; have HO7 := Lib.hid ho7; have HV7 := Lib.hid hv7; have HC7 := Lib.hid hc7; clear hr7 hl7 ho7 hv7 hc7)
  all_goals (first | go_end0 | refine bodyPost_ret (results_none rfl _ _ _) rfl ?_)
  all_goals exact ⟨v7, rfl, HR7.out, HL7.out, HO7.out, HV7.out, HC7.out⟩
end Go.Proofs.Ytjplamoofkcojaa.ref
