/- The reference's operation: the rows of the kind of a ring. -/
import Derived.Test.YtjplamoofkcojaaRefA
import Derived.Test.YtjplamoofkcojaaWordR
namespace Go.Proofs.Ytjplamoofkcojaa.ref
open Go Go.RowKit Go.Proofs.Ytjplamoofkcojaa.kit Go.Proofs.Ytjplamoofkcojaa.obj Go.Proofs.Ytjplamoofkcojaa.rop
set_option linter.unusedVariables false
set_option linter.unusedSimpArgs false
set_option maxRecDepth 20000
variable {tn : Nat}
/-- an attempt has failed -/
def triedG (x : ROp) : ROp := if x.c ≤ x.tries + 1 then ({ x with tries := x.tries + 1, rcd := .slice none 0 0, row := 0, i := 0 } : ROp).ended 1 else { x with tries := x.tries + 1, rcd := .slice none 0 0, row := 0, i := 0 }
theorem fail_litG (bx : Nat) (x : ROp) (b : Bool) (hb : decide (x.c ≤ x.tries + 1) = b) (ht : 0 ≤ x.tries ∧ x.tries ≤ 1000000) (W : World) (h : RAt W bx x) :
    Calls Try.prog 73 #[.pointer (some ⟨bx, 0, none⟩)] W fun e W' => e = .returned (.bool b) ∧ RAt W' bx { x with tries := x.tries + 1, rcd := .slice none 0 0, row := 0, i := 0 } ∧ Chg [bx] W W' :=
  (fail_core bx x W h ht).mono (by rintro e w ⟨rfl, h1, h2⟩; exact ⟨by rw [hb], h1, h2⟩)
set_option maxHeartbeats 4000000 in
theorem ringW_0 (bx g o m cp : Nat) (x : ROp) (ws : List Int) (W : World) (h : RAt W bx { x with row := 0 }) (hl : LT tn W g ws) (hwf : ∀ z ∈ ws, 0 ≤ z ∧ z ≤ 4294967295) (hm : 1 ≤ m) (hmc : m ≤ cp) (hom : o + m ≤ ws.length) (hne1 : bx ≠ g) (hs : 2 ≤ x.s ∧ x.s ≤ 16) :
    Calls Try.prog 45 #[.pointer (some ⟨bx, 0, none⟩), .slice (some ⟨g, o, none⟩) m cp, .bool true] W fun e W' => e = .returned (.tuple #[]) ∧ RAt W' bx ({ ({ x with row := 0 } : ROp) with a := (ws.getD (o + 0) 0 % (x.s * 1048576) + 1) % (x.s * 1048576), row := 1, i := 0 }) ∧ LT tn W' g (ws) ∧ Chg [bx] W W' := by
  have HB : Hid (Blk W bx ({ x with row := 0 } : ROp).cells 45) := Lib.hid h
  have HL := Lib.hid hl
  have hj0 : o + 0 < ws.length := by omega
  have c0 : W.cell? ⟨g, o, none⟩ = some (.int .u32 (ws.getD (o + 0) 0)) := LT.word HL.out (o + 0) hj0
  have b0 : 0 ≤ ws.getD (o + 0) 0 ∧ ws.getD (o + 0) 0 ≤ 4294967295 := hwf _ (by rw [List.getD_eq_getElem?_getD, List.getElem?_eq_getElem hj0]; exact List.getElem_mem hj0)
  generalize ws.getD (o + 0) 0 = v1 at *
  have hm0 : 0 < m := by omega
  have e11 : W.cell? ⟨bx, 11, none⟩ = some (.int .i64 0) := HB.out.cell rfl
  have e2 : W.cell? ⟨bx, 2, none⟩ = some (.int .i64 x.s) := HB.out.cell rfl
  have e16 : W.cell? ⟨bx, 16, none⟩ = some (.int .u32 x.a) := HB.out.cell rfl
  have hne1b : ¬ g = bx := fun hh => hne1 hh.symm
  have f16 := HB.out.free 16
  have k1 : IntKind.u32.wrap x.s = x.s := by rw [IntKind.wrap_u32]; omega
  have k2 : IntKind.u32.wrap (x.s * 1048576) = x.s * 1048576 := by rw [IntKind.wrap_u32]; omega
  have hmn : (x.s * 1048576) ≠ 0 := by omega
  have hm0 : ((x.s * 1048576) == 0) = false := by simp; omega
  have kt : Int.tmod v1 (x.s * 1048576) = v1 % (x.s * 1048576) := Int.tmod_eq_emod_of_nonneg b0.1
  have q1 := Int.emod_lt_of_pos v1 (show 0 < (x.s * 1048576) by omega)
  have q2 := Int.emod_nonneg v1 hmn
  obtain ⟨nx, hnx⟩ : ∃ nx, (v1 % (x.s * 1048576) + 1) % (x.s * 1048576) = nx := ⟨_, rfl⟩
  rw [hnx]
  obtain ⟨q, hq⟩ : ∃ q, v1 % (x.s * 1048576) = q := ⟨_, rfl⟩
  rw [hq] at kt q1 q2 hnx
  have HNX : Hid (∀ V, Calls Try.prog 74 #[.int .u32 q, .int .u32 (x.s * 1048576)] V fun e W' => e = .returned (.int .u32 nx) ∧ V = W') := Lib.hid (fun V => (word.rNext_any q (x.s * 1048576) V (by omega) (by omega)).mono (by rintro e w ⟨rfl, rfl⟩; exact ⟨by unfold word.stepU; rw [if_neg hmn, hnx], rfl⟩))
  have kw : IntKind.u32.wrap q = q := by rw [IntKind.wrap_u32]; omega
  clear h hl hwf hom hj0 hnx hq
  go_enter Try.func45, Try.ntmps45
  go_wp2_with (first | (go_at_call 74; refine (HNX.out _).mono ?_; rintro e wx ⟨rfl, rfl⟩) | (go_at_call 68; refine (to_any bx ({ x with row := 0, a := nx } : ROp) 1 _ ((HB.out.set 16 (.int .u32 q)).set 16 (.int .u32 nx))).mono ?_; rintro e W7 ⟨rfl, hr7, hc7⟩; have HR7 := Lib.hid hr7; have HC7 := Lib.hid hc7; clear hr7 hc7))
  go_end0
  exact ⟨rfl, HR7.out, LT.keep (LT.set_ne (LT.set_ne HL.out hne1b _ _ _) hne1b _ _ _) HC7.out (by simp; exact hne1b), (((Chg.refl [bx] W).setCell (.inl (by simp)) _).setCell (.inl (by simp)) _).trans HC7.out⟩
set_option maxHeartbeats 4000000 in
theorem ringR_0 (bx g o m cp : Nat) (x : ROp) (ws : List Int) (W : World) (h : RAt W bx { x with row := 0 }) (hl : LT tn W g ws) (hwf : ∀ z ∈ ws, 0 ≤ z ∧ z ≤ 4294967295) (hm : 1 ≤ m) (hmc : m ≤ cp) (hom : o + m ≤ ws.length) (hne1 : bx ≠ g) (hs : 2 ≤ x.s ∧ x.s ≤ 16) :
    Calls Try.prog 45 #[.pointer (some ⟨bx, 0, none⟩), .slice (some ⟨g, o, none⟩) m cp, .bool false] W fun e W' => e = .returned (.tuple #[]) ∧ RAt W' bx ({ ({ x with row := 0 } : ROp) with a := ws.getD (o + 0) 0 % (x.s * 1048576), row := 1, i := 0 }) ∧ LT tn W' g (ws) ∧ Chg [bx] W W' := by
  have HB : Hid (Blk W bx ({ x with row := 0 } : ROp).cells 45) := Lib.hid h
  have HL := Lib.hid hl
  have hj0 : o + 0 < ws.length := by omega
  have c0 : W.cell? ⟨g, o, none⟩ = some (.int .u32 (ws.getD (o + 0) 0)) := LT.word HL.out (o + 0) hj0
  have b0 : 0 ≤ ws.getD (o + 0) 0 ∧ ws.getD (o + 0) 0 ≤ 4294967295 := hwf _ (by rw [List.getD_eq_getElem?_getD, List.getElem?_eq_getElem hj0]; exact List.getElem_mem hj0)
  generalize ws.getD (o + 0) 0 = v1 at *
  have hm0 : 0 < m := by omega
  have e11 : W.cell? ⟨bx, 11, none⟩ = some (.int .i64 0) := HB.out.cell rfl
  have e2 : W.cell? ⟨bx, 2, none⟩ = some (.int .i64 x.s) := HB.out.cell rfl
  have e16 : W.cell? ⟨bx, 16, none⟩ = some (.int .u32 x.a) := HB.out.cell rfl
  have hne1b : ¬ g = bx := fun hh => hne1 hh.symm
  have f16 := HB.out.free 16
  have k1 : IntKind.u32.wrap x.s = x.s := by rw [IntKind.wrap_u32]; omega
  have k2 : IntKind.u32.wrap (x.s * 1048576) = x.s * 1048576 := by rw [IntKind.wrap_u32]; omega
  have hmn : (x.s * 1048576) ≠ 0 := by omega
  have hm0 : ((x.s * 1048576) == 0) = false := by simp; omega
  have kt : Int.tmod v1 (x.s * 1048576) = v1 % (x.s * 1048576) := Int.tmod_eq_emod_of_nonneg b0.1
  have q1 := Int.emod_lt_of_pos v1 (show 0 < (x.s * 1048576) by omega)
  have q2 := Int.emod_nonneg v1 hmn
  obtain ⟨q, hq⟩ : ∃ q, v1 % (x.s * 1048576) = q := ⟨_, rfl⟩
  rw [hq] at kt q1 q2 ⊢
  have kw : IntKind.u32.wrap q = q := by rw [IntKind.wrap_u32]; omega
  clear h hl hwf hom hj0 hq
  go_enter Try.func45, Try.ntmps45
  go_wp2_with (go_at_call 68; refine (to_any bx ({ x with row := 0, a := q } : ROp) 1 _ (HB.out.set 16 (.int .u32 q))).mono ?_; rintro e W7 ⟨rfl, hr7, hc7⟩; have HR7 := Lib.hid hr7; have HC7 := Lib.hid hc7; clear hr7 hc7)
  go_end0
  exact ⟨rfl, HR7.out, LT.keep (LT.set_ne HL.out hne1b _ _ _) HC7.out (by simp; exact hne1b), ((Chg.refl [bx] W).setCell (.inl (by simp)) _).trans HC7.out⟩
set_option maxHeartbeats 8000000 in
theorem ringW_1 (bx g rg o m cp iN rn rcap : Nat) (x : ROp) (ws : List Int) (rv : Int) (at_ : Nat) (W : World) (h : RAt W bx ({ x with row := 1, i := (iN : Int), rcd := .slice (some ⟨rg, 0, none⟩) rn rcap } : ROp)) (hl : LT tn W g ws) (hop : x.op = writesI x.k) (hrl : x.rl ≤ 100) (hw : 1 ≤ x.w ∧ x.w ≤ 8) (hi : iN ≤ 100) (hir : iN < rn)
    (hs : 2 ≤ x.s ∧ x.s ≤ 16) (ha : 0 ≤ x.a ∧ x.a ≤ 4294967295) (hat : headI x.k x.rl + (x.a % x.s) * x.w + iN = (at_ : Int)) (ham : at_ < m) (hmc : m ≤ cp) (hom : o + m ≤ ws.length)
    (hrv : W.cell? ⟨rg, iN, none⟩ = some (.int .u32 rv)) (hne1 : bx ≠ g) (hne2 : ¬ rg = bx) (hne3 : ¬ rg = g) :
    Calls Try.prog 45 #[.pointer (some ⟨bx, 0, none⟩), .slice (some ⟨g, o, none⟩) m cp, .bool true] W fun e W' => e = .returned (.tuple #[]) ∧ RAt W' bx (if (iN : Int) + 1 < x.w then { ({ x with row := 1, i := (iN : Int), rcd := .slice (some ⟨rg, 0, none⟩) rn rcap } : ROp) with i := (iN : Int) + 1 } else { ({ x with row := 1, i := (iN : Int), rcd := .slice (some ⟨rg, 0, none⟩) rn rcap } : ROp) with row := 2, i := 0 }) ∧ LT tn W' g (ws.set (o + at_) rv) ∧ Chg [bx, g] W W' := by
  have HB : Hid (Blk W bx ({ x with row := 1, i := (iN : Int), rcd := .slice (some ⟨rg, 0, none⟩) rn rcap } : ROp).cells 45) := Lib.hid h
  have e2 : W.cell? ⟨bx, 2, none⟩ = some (.int .i64 x.s) := HB.out.cell rfl
  have e16 : W.cell? ⟨bx, 16, none⟩ = some (.int .u32 x.a) := HB.out.cell rfl
  have k1 : IntKind.u32.wrap x.s = x.s := by rw [IntKind.wrap_u32]; omega
  have k2 : IntKind.u32.wrap (x.s * 1048576) = x.s * 1048576 := by rw [IntKind.wrap_u32]; omega
  have hs0 : x.s ≠ 0 := by omega
  have hs1 : (x.s == 0) = false := by simp; omega
  have kt : Int.tmod x.a x.s = x.a % x.s := Int.tmod_eq_emod_of_nonneg ha.1
  have q1 := Int.emod_lt_of_pos x.a (show 0 < x.s by omega)
  have q2 := Int.emod_nonneg x.a hs0
  have kw : IntKind.u32.wrap (x.a % x.s) = x.a % x.s := by rw [IntKind.wrap_u32]; omega
  obtain ⟨sl_, hsl_⟩ : ∃ q, x.a % x.s = q := ⟨_, rfl⟩
  rw [hsl_] at kt q1 q2 kw hat
  have hslb : 0 ≤ sl_ ∧ sl_ ≤ 4294967295 := by omega
  have hword := word_write bx g rg ({ x with row := 1 } : ROp) sl_ 2 o m cp iN rn rcap at_ ws rv W HB.out hl hop hrl hw hi hir hslb hat ham hmc hom hrv hne1 hne2 hne3
  rw [if_neg (show ¬ ((2 : Int) < 0) by decide)] at hword
  have HWORD := Lib.hid hword
  have e11 : W.cell? ⟨bx, 11, none⟩ = some (.int .i64 1) := HB.out.cell rfl
  generalize hpost : (if (iN : Int) + 1 < x.w then { ({ x with row := 1, i := (iN : Int), rcd := .slice (some ⟨rg, 0, none⟩) rn rcap } : ROp) with i := (iN : Int) + 1 } else { ({ x with row := 1, i := (iN : Int), rcd := .slice (some ⟨rg, 0, none⟩) rn rcap } : ROp) with row := 2, i := 0 }) = yy
  have HPOST := Lib.hid hpost
  clear h hl hop hrl hrv hat hword hom hpost hsl_ ha hs
  go_enter Try.func45, Try.ntmps45
  go_wp2_with (go_at_call 69; refine HWORD.out.mono ?_; rintro e W7 ⟨rfl, hr7, hl7, hc7⟩; have HR7 := Lib.hid hr7; have HL7 := Lib.hid hl7; have HC7 := Lib.hid hc7; clear hr7 hl7 hc7)
  all_goals (first | go_end0 | refine bodyPost_ret (results_none rfl _ _ _) rfl ?_)
  all_goals exact ⟨rfl, by rw [← HPOST.out]; exact HR7.out, HL7.out, HC7.out⟩
set_option maxHeartbeats 8000000 in
theorem ringR_1 (B bx g o m cp iN rn rcap : Nat) (x : ROp) (rp : Option Addr) (ws recs : List Int) (at_ : Nat) (W : World) (h : RAt W bx ({ x with row := 1, i := (iN : Int), rcd := .slice rp rn rcap } : ROp)) (hl : LT tn W g ws) (hop : x.op ≠ writesI x.k) (hrl : x.rl ≤ 100) (hw : 1 ≤ x.w ∧ x.w ≤ 8) (hi : iN ≤ 100)
    (hrn : recs.length = rn) (hrn2 : rn ≤ 1000) (hs : 2 ≤ x.s ∧ x.s ≤ 16) (ha : 0 ≤ x.a ∧ x.a ≤ 4294967295) (hat : headI x.k x.rl + (x.a % x.s) * x.w + iN = (at_ : Int)) (ham : at_ < m) (hmc : m ≤ cp) (hom : o + m ≤ ws.length)
    (hB : B ≤ W.heap.size) (hown : W.ownsRow B 22 1 (.slice rp rn rcap) rn (recs.map (Value.int .u32))) (hne1 : bx ≠ g) (hne2 : ∀ y, (Value.slice rp rn rcap).ownBlock = some y → y ≠ bx ∧ y ≠ g) :
    Calls Try.prog 45 #[.pointer (some ⟨bx, 0, none⟩), .slice (some ⟨g, o, none⟩) m cp, .bool false] W fun e W' => ∃ v, e = .returned (.tuple #[]) ∧
      RAt W' bx (nextR { x with row := 1 } iN (2) v) ∧ LT tn W' g ws ∧ W'.ownsRow B 22 1 v (rn + 1) ((recs ++ [ws.getD (o + at_) 0]).map (Value.int .u32)) ∧ (∀ y, v.ownBlock = some y → (Value.slice rp rn rcap).ownBlock = some y ∨ W.heap.size ≤ y) ∧ Chg (bx :: (Value.slice rp rn rcap).ownBlock.toList) W W' := by
  have HB : Hid (Blk W bx ({ x with row := 1, i := (iN : Int), rcd := .slice rp rn rcap } : ROp).cells 45) := Lib.hid h
  have e2 : W.cell? ⟨bx, 2, none⟩ = some (.int .i64 x.s) := HB.out.cell rfl
  have e16 : W.cell? ⟨bx, 16, none⟩ = some (.int .u32 x.a) := HB.out.cell rfl
  have k1 : IntKind.u32.wrap x.s = x.s := by rw [IntKind.wrap_u32]; omega
  have k2 : IntKind.u32.wrap (x.s * 1048576) = x.s * 1048576 := by rw [IntKind.wrap_u32]; omega
  have hs0 : x.s ≠ 0 := by omega
  have hs1 : (x.s == 0) = false := by simp; omega
  have kt : Int.tmod x.a x.s = x.a % x.s := Int.tmod_eq_emod_of_nonneg ha.1
  have q1 := Int.emod_lt_of_pos x.a (show 0 < x.s by omega)
  have q2 := Int.emod_nonneg x.a hs0
  have kw : IntKind.u32.wrap (x.a % x.s) = x.a % x.s := by rw [IntKind.wrap_u32]; omega
  obtain ⟨sl_, hsl_⟩ : ∃ q, x.a % x.s = q := ⟨_, rfl⟩
  rw [hsl_] at kt q1 q2 kw hat
  have hslb : 0 ≤ sl_ ∧ sl_ ≤ 4294967295 := by omega
  have HWORD := Lib.hid (word_read B bx g ({ x with row := 1 } : ROp) sl_ (2) o m cp iN rn rcap at_ rp ws recs W HB.out hl hop hrl hw hi hrn hrn2 hslb hat ham hmc hom hB hown hne1 hne2)
  have e11 : W.cell? ⟨bx, 11, none⟩ = some (.int .i64 1) := HB.out.cell rfl
  clear h hl hop hrl hat hom hown hrn hrn2 hB hne2 hsl_ ha hs
  go_enter Try.func45, Try.ntmps45
  go_wp2_with (go_at_call 69; refine HWORD.out.mono ?_; rintro e W7 ⟨v7, rfl, hr7, hl7, ho7, hv7, hc7⟩; have HR7 := Lib.hid hr7; have HL7 := Lib.hid hl7; have HO7 := Lib.hid ho7; have HV7 := Lib.hid hv7; have HC7 := Lib.hid hc7; clear hr7 hl7 ho7 hv7 hc7)
  all_goals (first | go_end0 | refine bodyPost_ret (results_none rfl _ _ _) rfl ?_)
  all_goals exact ⟨v7, rfl, HR7.out, HL7.out, HO7.out, HV7.out, HC7.out⟩
set_option maxHeartbeats 4000000 in
theorem ringW_2 (bx g o m cp : Nat) (x : ROp) (ws : List Int) (W : World) (h : RAt W bx { x with row := 2 }) (hl : LT tn W g ws) (hwf : ∀ z ∈ ws, 0 ≤ z ∧ z ≤ 4294967295) (hm : 1 ≤ m) (hmc : m ≤ cp) (hom : o + m ≤ ws.length) (hne1 : bx ≠ g) (hs : 2 ≤ x.s ∧ x.s ≤ 16) :
    Calls Try.prog 45 #[.pointer (some ⟨bx, 0, none⟩), .slice (some ⟨g, o, none⟩) m cp, .bool true] W fun e W' => e = .returned (.tuple #[]) ∧ RAt W' bx (({ x with row := 2 } : ROp).ended 0) ∧ LT tn W' g (ws.set (o + 0) x.a) ∧ Chg [bx, g] W W' := by
  have HB : Hid (Blk W bx ({ x with row := 2 } : ROp).cells 45) := Lib.hid h
  have HL := Lib.hid hl
  have hj0 : o + 0 < ws.length := by omega
  have c0 : W.cell? ⟨g, o, none⟩ = some (.int .u32 (ws.getD (o + 0) 0)) := LT.word HL.out (o + 0) hj0
  have b0 : 0 ≤ ws.getD (o + 0) 0 ∧ ws.getD (o + 0) 0 ≤ 4294967295 := hwf _ (by rw [List.getD_eq_getElem?_getD, List.getElem?_eq_getElem hj0]; exact List.getElem_mem hj0)
  generalize ws.getD (o + 0) 0 = v1 at *
  have hm0 : 0 < m := by omega
  have e11 : W.cell? ⟨bx, 11, none⟩ = some (.int .i64 2) := HB.out.cell rfl
  have e2 : W.cell? ⟨bx, 2, none⟩ = some (.int .i64 x.s) := HB.out.cell rfl
  have e16 : W.cell? ⟨bx, 16, none⟩ = some (.int .u32 x.a) := HB.out.cell rfl
  have hne1b : ¬ g = bx := fun hh => hne1 hh.symm
  have g1 : W.frozen? ⟨g, o, none⟩ = false := HL.out.free (o + 0)
  have HLT9 := Lib.hid hj0
  have k1 : IntKind.u32.wrap x.s = x.s := by rw [IntKind.wrap_u32]; omega
  have k2 : IntKind.u32.wrap (x.s * 1048576) = x.s * 1048576 := by rw [IntKind.wrap_u32]; omega
  clear h hl hwf hom hj0
  go_enter Try.func45, Try.ntmps45
  go_wp2_with (go_at_call 70; refine (end_any bx ({ x with row := 2 } : ROp) 0 _ (Blk.set_ne HB.out hne1 _ _ _)).mono ?_; rintro e W7 ⟨rfl, hr7, hc7⟩; have HR7 := Lib.hid hr7; have HC7 := Lib.hid hc7; clear hr7 hc7)
  go_end0
  exact ⟨rfl, HR7.out, LT.keep (LT.put HL.out (o + 0) x.a HLT9.out) HC7.out (by simp; exact hne1b), ((Chg.refl [bx, g] W).setCell (.inl (by simp)) _).trans (HC7.out.mono (by simp))⟩
set_option maxHeartbeats 4000000 in
theorem ringR_2 (bx g o m cp : Nat) (x : ROp) (ws : List Int) (W : World) (h : RAt W bx { x with row := 2 }) (hl : LT tn W g ws) (hwf : ∀ z ∈ ws, 0 ≤ z ∧ z ≤ 4294967295) (hm : 1 ≤ m) (hmc : m ≤ cp) (hom : o + m ≤ ws.length) (hne1 : bx ≠ g) (hs : 2 ≤ x.s ∧ x.s ≤ 16) (ha : 0 ≤ x.a ∧ x.a ≤ 4294967295) (ht : 0 ≤ x.tries ∧ x.tries ≤ 1000000) :
    Calls Try.prog 45 #[.pointer (some ⟨bx, 0, none⟩), .slice (some ⟨g, o, none⟩) m cp, .bool false] W fun e W' => e = .returned (.tuple #[]) ∧ RAt W' bx (if word.gapU x.a (ws.getD (o + 0) 0) (x.s * 1048576) + 1 < x.s then ({ x with row := 2 } : ROp).ended 0 else triedG ({ x with row := 2 } : ROp)) ∧ LT tn W' g (ws) ∧ Chg [bx] W W' := by
  have HB : Hid (Blk W bx ({ x with row := 2 } : ROp).cells 45) := Lib.hid h
  have HL := Lib.hid hl
  have hj0 : o + 0 < ws.length := by omega
  have c0 : W.cell? ⟨g, o, none⟩ = some (.int .u32 (ws.getD (o + 0) 0)) := LT.word HL.out (o + 0) hj0
  have b0 : 0 ≤ ws.getD (o + 0) 0 ∧ ws.getD (o + 0) 0 ≤ 4294967295 := hwf _ (by rw [List.getD_eq_getElem?_getD, List.getElem?_eq_getElem hj0]; exact List.getElem_mem hj0)
  generalize ws.getD (o + 0) 0 = v1 at *
  have hm0 : 0 < m := by omega
  have e11 : W.cell? ⟨bx, 11, none⟩ = some (.int .i64 2) := HB.out.cell rfl
  have e2 : W.cell? ⟨bx, 2, none⟩ = some (.int .i64 x.s) := HB.out.cell rfl
  have e16 : W.cell? ⟨bx, 16, none⟩ = some (.int .u32 x.a) := HB.out.cell rfl
  have hne1b : ¬ g = bx := fun hh => hne1 hh.symm
  have k1 : IntKind.u32.wrap x.s = x.s := by rw [IntKind.wrap_u32]; omega
  have k2 : IntKind.u32.wrap (x.s * 1048576) = x.s * 1048576 := by rw [IntKind.wrap_u32]; omega
  have HT := Lib.hid ht
  have gb := word.gapU_bd (c := x.a) (n := v1) (m := (x.s * 1048576)) (by omega)
  have HGP0 := fun V => word.rGap_any x.a v1 (x.s * 1048576) V ha b0 (by omega)
  generalize word.gapU x.a v1 (x.s * 1048576) = gp at *
  have HGP : Hid (∀ V, Calls Try.prog 75 #[.int .u32 x.a, .int .u32 v1, .int .u32 (x.s * 1048576)] V fun e W' => e = .returned (.int .u32 gp) ∧ Chg [] V W') := Lib.hid (fun V => (HGP0 V).mono (by rintro e w ⟨rfl, hq⟩; exact ⟨rfl, quiet_chg hq⟩))
  have kg : IntKind.u32.wrap (gp + 1) = gp + 1 := by rw [IntKind.wrap_u32]; omega
  generalize hpost : (if gp + 1 < x.s then ({ x with row := 2 } : ROp).ended 0 else triedG ({ x with row := 2 } : ROp)) = yy
  have HPOST := Lib.hid hpost
  clear h hl hwf hom hj0 ht hpost HGP0 ha
  by_cases hf : gp + 1 < x.s
  · skip
    have HP : Hid (yy = ({ x with row := 2 } : ROp).ended 0) := Lib.hid (HPOST.out.symm.trans (if_pos hf))
    have hq : decide (gp + 1 < x.s) = true := by simpa using hf
    go_enter Try.func45, Try.ntmps45
    go_wp2_with fail
    have eS0 : W.cell? ⟨g, o, none⟩ = some (.int .u32 v1) := c0
    have eS1 : W.cell? ⟨bx, 16, none⟩ = some (.int .u32 x.a) := e16
    have KEEP := Lib.hid (fun (V : World) (h : Chg [] W V) => (⟨h.keep eS0 (by simp), h.keep eS1 (by simp), Lib.hid h⟩ : (fun V : World => V.cell? ⟨g, o, none⟩ = some (.int .u32 v1) ∧ V.cell? ⟨bx, 16, none⟩ = some (.int .u32 x.a) ∧ Hid (Chg [] W V)) V))
    clear eS0 eS1 c0 e16 e11 e2
    have hHeld : (fun V : World => V.cell? ⟨g, o, none⟩ = some (.int .u32 v1) ∧ V.cell? ⟨bx, 16, none⟩ = some (.int .u32 x.a) ∧ Hid (Chg [] W V)) (World.drew W) := KEEP.out _ (Chg.refl _ _).drew
    refine wp_region_plan (fun V : World => V.cell? ⟨g, o, none⟩ = some (.int .u32 v1) ∧ V.cell? ⟨bx, 16, none⟩ = some (.int .u32 x.a) ∧ Hid (Chg [] W V)) [(0, true, some 64), (1, true, some 65), (2, true, some 66), (3, true, some 67), (4, true, some 68), (5, true, some 69), (6, true, some 70), (7, true, some 71), (10, true, some 74), (8, false, some 72), (9, true, some 73), (11, true, some 75)] (by kernel_rfl) (by kernel_rfl) (by kernel_rfl) (by kernel_rfl) (fun d c a v w h => by cases d <;> exact h) hHeld ?_
    repeat (first
      | (refine planWp_read (v := ?_) rfl rfl ?_ ?_ ?_; rotate_left; (focus rfl); (focus (intro u hSw; (try dsimp only at hSw); go_simp; (try with_reducible rfl))); (try simp only [Act.put, List.setIfInBounds_toArray, List.set_cons_zero, List.set_cons_succ]))
      | (refine planWp_skip rfl rfl ?_ ?_; (focus rfl); (try simp only [Act.put, List.setIfInBounds_toArray, List.set_cons_zero, List.set_cons_succ]))
      | (refine planWp_leave rfl rfl ?_ hHeld ?_; (focus rfl); (try simp only [Act.put, List.setIfInBounds_toArray, List.set_cons_zero, List.set_cons_succ]))
      | (refine planWp_do rfl rfl ?_ (fun K hK => ?_); (focus rfl); go_simp; (try go_wp2_with (go_at_call 75; refine (HGP.out _).mono ?_; rintro e wx ⟨rfl, hcx⟩; have HCX := Lib.hid hcx; clear hcx)); refine hK.out _ _ ?_ (fun hHeld2 => ?_); (focus (exact KEEP.out _ (Chg.trans hHeld.2.2.out HCX.out))); clear hK K hHeld; have hHeld := hHeld2; clear hHeld2; (try simp only [Act.put, List.setIfInBounds_toArray, List.set_cons_zero, List.set_cons_succ])))
    refine planWp_nil ?_
    have HR9 := Lib.hid hHeld.2.2.out
    clear hHeld KEEP
    refine then_gen (R := fun V => Hid (Chg [] W V)) HR9 ?_
    clear HR9
    rintro wf HR9
    have HBC : Hid (Blk wf bx ({ x with row := 2 } : ROp).cells 45) := Lib.hid (HB.out.keep HR9.out (by simp))
    go_wp2_with (go_at_call 70; refine (end_any bx ({ x with row := 2 } : ROp) 0 _ HBC.out).mono ?_; rintro e W7 ⟨rfl, hr7, hc7⟩; have HR7 := Lib.hid hr7; have HC7 := Lib.hid hc7; clear hr7 hc7)
    go_end0
    exact ⟨rfl, by rw [HP.out]; exact HR7.out, LT.keep (LT.keep HL.out HR9.out (by simp)) HC7.out (by simp; exact hne1b), (HR9.out.mono (by simp)).trans HC7.out⟩
  · by_cases hc : x.c ≤ x.tries + 1
    · skip
      have HP : Hid (yy = ({ ({ x with row := 2 } : ROp) with tries := x.tries + 1, rcd := .slice none 0 0, row := 0, i := 0 } : ROp).ended 1) := Lib.hid (by rw [← HPOST.out, if_neg hf]; unfold triedG; rw [if_pos (show ({ x with row := 2 } : ROp).c ≤ ({ x with row := 2 } : ROp).tries + 1 from hc)])
      have HF : Hid (decide (({ x with row := 2 } : ROp).c ≤ ({ x with row := 2 } : ROp).tries + 1) = true) := Lib.hid (by simpa using hc)
      have hq : decide (gp + 1 < x.s) = false := by simpa using hf
      clear hc
      go_enter Try.func45, Try.ntmps45
      go_wp2_with fail
      have eS0 : W.cell? ⟨g, o, none⟩ = some (.int .u32 v1) := c0
      have eS1 : W.cell? ⟨bx, 16, none⟩ = some (.int .u32 x.a) := e16
      have KEEP := Lib.hid (fun (V : World) (h : Chg [] W V) => (⟨h.keep eS0 (by simp), h.keep eS1 (by simp), Lib.hid h⟩ : (fun V : World => V.cell? ⟨g, o, none⟩ = some (.int .u32 v1) ∧ V.cell? ⟨bx, 16, none⟩ = some (.int .u32 x.a) ∧ Hid (Chg [] W V)) V))
      clear eS0 eS1 c0 e16 e11 e2
      have hHeld : (fun V : World => V.cell? ⟨g, o, none⟩ = some (.int .u32 v1) ∧ V.cell? ⟨bx, 16, none⟩ = some (.int .u32 x.a) ∧ Hid (Chg [] W V)) (World.drew W) := KEEP.out _ (Chg.refl _ _).drew
      refine wp_region_plan (fun V : World => V.cell? ⟨g, o, none⟩ = some (.int .u32 v1) ∧ V.cell? ⟨bx, 16, none⟩ = some (.int .u32 x.a) ∧ Hid (Chg [] W V)) [(0, true, some 64), (1, true, some 65), (2, true, some 66), (3, true, some 67), (4, true, some 68), (5, true, some 69), (6, true, some 70), (7, true, some 71), (10, true, some 74), (8, false, some 72), (9, true, some 73), (11, true, some 75)] (by kernel_rfl) (by kernel_rfl) (by kernel_rfl) (by kernel_rfl) (fun d c a v w h => by cases d <;> exact h) hHeld ?_
      repeat (first
        | (refine planWp_read (v := ?_) rfl rfl ?_ ?_ ?_; rotate_left; (focus rfl); (focus (intro u hSw; (try dsimp only at hSw); go_simp; (try with_reducible rfl))); (try simp only [Act.put, List.setIfInBounds_toArray, List.set_cons_zero, List.set_cons_succ]))
        | (refine planWp_skip rfl rfl ?_ ?_; (focus rfl); (try simp only [Act.put, List.setIfInBounds_toArray, List.set_cons_zero, List.set_cons_succ]))
        | (refine planWp_leave rfl rfl ?_ hHeld ?_; (focus rfl); (try simp only [Act.put, List.setIfInBounds_toArray, List.set_cons_zero, List.set_cons_succ]))
        | (refine planWp_do rfl rfl ?_ (fun K hK => ?_); (focus rfl); go_simp; (try go_wp2_with (go_at_call 75; refine (HGP.out _).mono ?_; rintro e wx ⟨rfl, hcx⟩; have HCX := Lib.hid hcx; clear hcx)); refine hK.out _ _ ?_ (fun hHeld2 => ?_); (focus (exact KEEP.out _ (Chg.trans hHeld.2.2.out HCX.out))); clear hK K hHeld; have hHeld := hHeld2; clear hHeld2; (try simp only [Act.put, List.setIfInBounds_toArray, List.set_cons_zero, List.set_cons_succ])))
      refine planWp_nil ?_
      have HR9 := Lib.hid hHeld.2.2.out
      clear hHeld KEEP
      refine then_gen (R := fun V => Hid (Chg [] W V)) HR9 ?_
      clear HR9
      rintro wf HR9
      have HBC : Hid (Blk wf bx ({ x with row := 2 } : ROp).cells 45) := Lib.hid (HB.out.keep HR9.out (by simp))
      go_wp2_with (first | (go_at_call 73; refine (fail_litG bx ({ x with row := 2 } : ROp) _ HF.out HT.out _ HBC.out).mono ?_; rintro e W6 ⟨rfl, hr6, hc6⟩; have HR6 := Lib.hid hr6; have HC6 := Lib.hid hc6; clear hr6 hc6) | (go_at_call 70; refine (end_any bx _ 1 _ HR6.out).mono ?_; rintro e W7 ⟨rfl, hr7, hc7⟩; have HR7 := Lib.hid hr7; have HC7 := Lib.hid (HC6.out.trans hc7); clear hr7 hc7))
      go_end0
      exact ⟨rfl, by rw [HP.out]; exact HR7.out, LT.keep (LT.keep HL.out HR9.out (by simp)) HC7.out (by simp; exact hne1b), (HR9.out.mono (by simp)).trans HC7.out⟩
    · skip
      have HP : Hid (yy = { ({ x with row := 2 } : ROp) with tries := x.tries + 1, rcd := .slice none 0 0, row := 0, i := 0 }) := Lib.hid (by rw [← HPOST.out, if_neg hf]; unfold triedG; rw [if_neg (show ¬ ({ x with row := 2 } : ROp).c ≤ ({ x with row := 2 } : ROp).tries + 1 from hc)])
      have HF : Hid (decide (({ x with row := 2 } : ROp).c ≤ ({ x with row := 2 } : ROp).tries + 1) = false) := Lib.hid (by simpa using hc)
      have hq : decide (gp + 1 < x.s) = false := by simpa using hf
      clear hc
      go_enter Try.func45, Try.ntmps45
      go_wp2_with fail
      have eS0 : W.cell? ⟨g, o, none⟩ = some (.int .u32 v1) := c0
      have eS1 : W.cell? ⟨bx, 16, none⟩ = some (.int .u32 x.a) := e16
      have KEEP := Lib.hid (fun (V : World) (h : Chg [] W V) => (⟨h.keep eS0 (by simp), h.keep eS1 (by simp), Lib.hid h⟩ : (fun V : World => V.cell? ⟨g, o, none⟩ = some (.int .u32 v1) ∧ V.cell? ⟨bx, 16, none⟩ = some (.int .u32 x.a) ∧ Hid (Chg [] W V)) V))
      clear eS0 eS1 c0 e16 e11 e2
      have hHeld : (fun V : World => V.cell? ⟨g, o, none⟩ = some (.int .u32 v1) ∧ V.cell? ⟨bx, 16, none⟩ = some (.int .u32 x.a) ∧ Hid (Chg [] W V)) (World.drew W) := KEEP.out _ (Chg.refl _ _).drew
      refine wp_region_plan (fun V : World => V.cell? ⟨g, o, none⟩ = some (.int .u32 v1) ∧ V.cell? ⟨bx, 16, none⟩ = some (.int .u32 x.a) ∧ Hid (Chg [] W V)) [(0, true, some 64), (1, true, some 65), (2, true, some 66), (3, true, some 67), (4, true, some 68), (5, true, some 69), (6, true, some 70), (7, true, some 71), (10, true, some 74), (8, false, some 72), (9, true, some 73), (11, true, some 75)] (by kernel_rfl) (by kernel_rfl) (by kernel_rfl) (by kernel_rfl) (fun d c a v w h => by cases d <;> exact h) hHeld ?_
      repeat (first
        | (refine planWp_read (v := ?_) rfl rfl ?_ ?_ ?_; rotate_left; (focus rfl); (focus (intro u hSw; (try dsimp only at hSw); go_simp; (try with_reducible rfl))); (try simp only [Act.put, List.setIfInBounds_toArray, List.set_cons_zero, List.set_cons_succ]))
        | (refine planWp_skip rfl rfl ?_ ?_; (focus rfl); (try simp only [Act.put, List.setIfInBounds_toArray, List.set_cons_zero, List.set_cons_succ]))
        | (refine planWp_leave rfl rfl ?_ hHeld ?_; (focus rfl); (try simp only [Act.put, List.setIfInBounds_toArray, List.set_cons_zero, List.set_cons_succ]))
        | (refine planWp_do rfl rfl ?_ (fun K hK => ?_); (focus rfl); go_simp; (try go_wp2_with (go_at_call 75; refine (HGP.out _).mono ?_; rintro e wx ⟨rfl, hcx⟩; have HCX := Lib.hid hcx; clear hcx)); refine hK.out _ _ ?_ (fun hHeld2 => ?_); (focus (exact KEEP.out _ (Chg.trans hHeld.2.2.out HCX.out))); clear hK K hHeld; have hHeld := hHeld2; clear hHeld2; (try simp only [Act.put, List.setIfInBounds_toArray, List.set_cons_zero, List.set_cons_succ])))
      refine planWp_nil ?_
      have HR9 := Lib.hid hHeld.2.2.out
      clear hHeld KEEP
      refine then_gen (R := fun V => Hid (Chg [] W V)) HR9 ?_
      clear HR9
      rintro wf HR9
      have HBC : Hid (Blk wf bx ({ x with row := 2 } : ROp).cells 45) := Lib.hid (HB.out.keep HR9.out (by simp))
      go_wp2_with (go_at_call 73; refine (fail_litG bx ({ x with row := 2 } : ROp) _ HF.out HT.out _ HBC.out).mono ?_; rintro e W6 ⟨rfl, hr6, hc6⟩; have HR6 := Lib.hid hr6; have HC6 := Lib.hid hc6; clear hr6 hc6)
      go_end0
      exact ⟨rfl, by rw [HP.out]; exact HR6.out, LT.keep (LT.keep HL.out HR9.out (by simp)) HC6.out (by simp; exact hne1b), (HR9.out.mono (by simp)).trans HC6.out⟩
end Go.Proofs.Ytjplamoofkcojaa.ref
