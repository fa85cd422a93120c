/- Package micro: a step is opened; an attempt fails; a word of a record goes over; what is told. -/
import Derived.Test.YtbbpnpokccfhjaaCore2
import Derived.Test.YtbbpnpokccfhjaaRop3
namespace Go.Proofs.Ytbbpnpokccfhjaa.core
open Go Go.RowKit Go.Proofs.Ytbbpnpokccfhjaa.kit Go.Proofs.Ytbbpnpokccfhjaa.mem Go.Proofs.Ytbbpnpokccfhjaa.rop
set_option linter.unusedVariables false
set_option maxRecDepth 20000

/-- may a step be made? -/
def opens (x : Core) (l : Nat) : Bool := !x.over && insB (l : Int) x.base x.size
set_option maxHeartbeats 4000000 in
theorem Open_yes {T : TypeId} {bx mb : Nat} {sv r0 : Value} {W0 W : World} {x : Core} {rec ws : List Int} {n : Int} (hs : 0 ≤ x.steps ∧ x.steps ≤ 1000000) (ho : opens x ws.length = true) (h : St T bx mb sv W0 r0 W x rec ws n) :
    Calls Try.prog 57 #[.pointer (some ⟨bx, 0, none⟩), .pointer (some ⟨mb, 0, none⟩)] W fun e W' => e = .returned (.bool true) ∧ St T bx mb sv W0 r0 W' { x with m := .pointer (some ⟨mb, 0, none⟩), steps := x.steps + 1 } rec ws n := by
  have H := Lib.hid h
  have HLEN := Lib.hid h.memory.short
  simp only [opens, Bool.and_eq_true, Bool.not_eq_true'] at ho
  obtain ⟨hov, hins⟩ := ho
  have HOV := Lib.hid hov
  clear h hov
  go_enter Try.func57, Try.ntmps57
  go_wp2_with fail
  have eS0 : W.cell? ⟨bx, 22, none⟩ = some (.bool false) := by rw [← HOV.out]; exact H.out.cell 22 _ (fun _ => rfl)
  have eS1 : W.cell? ⟨bx, 18, none⟩ = some (.int .i64 x.base) := H.out.cell 18 _ (fun _ => rfl)
  have eS2 : W.cell? ⟨bx, 19, none⟩ = some (.int .i64 x.size) := H.out.cell 19 _ (fun _ => rfl)
  have KEEP := Lib.hid (fun (V : World) (h : Chg [] W V) => (⟨h.keep eS0 (by simp), h.keep eS1 (by simp), h.keep eS2 (by simp), Lib.hid h⟩ : (fun V : World => V.cell? ⟨bx, 22, none⟩ = some (.bool false) ∧ V.cell? ⟨bx, 18, none⟩ = some (.int .i64 x.base) ∧ V.cell? ⟨bx, 19, none⟩ = some (.int .i64 x.size) ∧ Hid (Chg [] W V)) V))
  clear eS0 eS1 eS2
  have hHeld : (fun V : World => V.cell? ⟨bx, 22, none⟩ = some (.bool false) ∧ V.cell? ⟨bx, 18, none⟩ = some (.int .i64 x.base) ∧ V.cell? ⟨bx, 19, none⟩ = some (.int .i64 x.size) ∧ Hid (Chg [] W V)) (World.drew W) := KEEP.out _ (Chg.refl _ _).drew
  refine wp_region_plan (fun V : World => V.cell? ⟨bx, 22, none⟩ = some (.bool false) ∧ V.cell? ⟨bx, 18, none⟩ = some (.int .i64 x.base) ∧ V.cell? ⟨bx, 19, none⟩ = some (.int .i64 x.size) ∧ Hid (Chg [] W V)) [(0, true, some 5), (1, true, some 6), (2, true, some 7), (3, true, some 8), (4, true, some 9), (5, true, some 10), (7, true, some 12), (8, true, some 13), (9, true, some 14), (10, true, some 15), (11, true, some 16), (12, true, some 17), (13, true, some 18), (14, true, some 19), (15, true, some 20), (6, false, some 11), (16, false, some 21), (17, true, some 22), (18, true, some 23)] (by kernel_rfl) (by kernel_rfl) (by kernel_rfl) (by kernel_rfl) (fun d c a v w h => by cases d <;> exact h) hHeld ?_
  repeat (first
    | (refine planWp_read (v := ?_) rfl rfl ?_ ?_ ?_; rotate_left; (focus rfl); (focus (intro u hSw; (try dsimp only at hSw); go_simp; (try with_reducible rfl))); (try simp only [Act.put, List.setIfInBounds_toArray, List.set_cons_zero, List.set_cons_succ]))
    | (refine planWp_skip rfl rfl ?_ ?_; (focus rfl); (try simp only [Act.put, List.setIfInBounds_toArray, List.set_cons_zero, List.set_cons_succ]))
    | (refine planWp_leave rfl rfl ?_ hHeld ?_; (focus rfl); (try simp only [Act.put, List.setIfInBounds_toArray, List.set_cons_zero, List.set_cons_succ]))
    | (refine planWp_do rfl rfl ?_ (fun K hK => ?_); (focus rfl); go_simp; (try go_wp2_with (first | (go_at_call 83; refine (lenm (H.out.memory.fresh hHeld.2.2.2.out)).mono ?_; rintro e w1 ⟨rfl, hcx⟩; have HCX := Lib.hid hcx; clear hcx) | (go_at_call 85; refine (Inside_any _ _ _ _ (by omega) (by have := HLEN.out; omega)).mono ?_; rintro e w1 ⟨rfl, hcx⟩; have HCX := Lib.hid hcx; clear hcx))); refine hK.out _ _ ?_ (fun hHeld2 => ?_); (focus (exact KEEP.out _ (Chg.trans hHeld.2.2.2.out HCX.out))); clear hK K hHeld; have hHeld := hHeld2; clear hHeld2; (try simp only [Act.put, List.setIfInBounds_toArray, List.set_cons_zero, List.set_cons_succ])))
  refine planWp_nil ?_
  refine then_gen (R := fun V => Hid (Chg [] W V)) (Lib.hid hHeld.2.2.2.out) ?_
  clear hHeld KEEP
  rintro W1 HC1
  have H1 := Lib.hid (H.out.keep HC1.out)
  have e21 : W1.cell? ⟨bx, 21, none⟩ = some (.int .i64 x.steps) := H1.out.cell 21 _ (fun _ => rfl)
  have e17 : W1.cell? ⟨bx, 17, none⟩ = some (x.m) := H1.out.cell 17 _ (fun _ => rfl)
  have f21 := H1.out.free 21
  have f17 := H1.out.free 17
  go_wp2_with fail
  go_ret
  exact ⟨rfl, (H1.out.put 17 (.pointer (some ⟨mb, 0, none⟩)) { x with m := .pointer (some ⟨mb, 0, none⟩) } (fun _ => rfl)).put 21 (.int .i64 (x.steps + 1)) { x with m := .pointer (some ⟨mb, 0, none⟩), steps := x.steps + 1 } (fun _ => rfl)⟩
set_option maxHeartbeats 4000000 in
theorem Open_no {T : TypeId} {bx mb : Nat} {sv r0 : Value} {W0 W : World} {x : Core} {rec ws : List Int} {n : Int} (ho : opens x ws.length = false) (h : St T bx mb sv W0 r0 W x rec ws n) :
    Calls Try.prog 57 #[.pointer (some ⟨bx, 0, none⟩), .pointer (some ⟨mb, 0, none⟩)] W fun e W' => e = .returned (.bool false) ∧ Chg [] W W' := by
  have H := Lib.hid h
  have HLEN := Lib.hid h.memory.short
  have hcase : x.over = true ∨ (x.over = false ∧ insB (ws.length : Int) x.base x.size = false) := by
    unfold opens at ho
    cases hov : x.over
    · rw [hov] at ho; right; exact ⟨rfl, by simpa using ho⟩
    · exact .inl rfl
  clear h ho
  rcases hcase with hov | ⟨hov, hins⟩
  · have HOV := Lib.hid hov
    clear hov
    go_enter Try.func57, Try.ntmps57
    go_wp2_with fail
    have eS0 : W.cell? ⟨bx, 22, none⟩ = some (.bool true) := by rw [← HOV.out]; exact H.out.cell 22 _ (fun _ => rfl)
    have eS1 : W.cell? ⟨bx, 18, none⟩ = some (.int .i64 x.base) := H.out.cell 18 _ (fun _ => rfl)
    have eS2 : W.cell? ⟨bx, 19, none⟩ = some (.int .i64 x.size) := H.out.cell 19 _ (fun _ => rfl)
    have KEEP := Lib.hid (fun (V : World) (h : Chg [] W V) => (⟨h.keep eS0 (by simp), h.keep eS1 (by simp), h.keep eS2 (by simp), Lib.hid h⟩ : (fun V : World => V.cell? ⟨bx, 22, none⟩ = some (.bool true) ∧ V.cell? ⟨bx, 18, none⟩ = some (.int .i64 x.base) ∧ V.cell? ⟨bx, 19, none⟩ = some (.int .i64 x.size) ∧ Hid (Chg [] W V)) V))
    clear eS0 eS1 eS2
    have hHeld : (fun V : World => V.cell? ⟨bx, 22, none⟩ = some (.bool true) ∧ V.cell? ⟨bx, 18, none⟩ = some (.int .i64 x.base) ∧ V.cell? ⟨bx, 19, none⟩ = some (.int .i64 x.size) ∧ Hid (Chg [] W V)) (World.drew W) := KEEP.out _ (Chg.refl _ _).drew
    refine wp_region_plan (fun V : World => V.cell? ⟨bx, 22, none⟩ = some (.bool true) ∧ V.cell? ⟨bx, 18, none⟩ = some (.int .i64 x.base) ∧ V.cell? ⟨bx, 19, none⟩ = some (.int .i64 x.size) ∧ Hid (Chg [] W V)) [(0, true, some 5), (1, true, some 6), (2, true, some 7), (3, true, some 8), (4, true, some 9), (5, true, some 10), (7, true, some 12), (8, true, some 13), (9, true, some 14), (10, true, some 15), (11, true, some 16), (12, true, some 17), (13, true, some 18), (14, true, some 19), (15, true, some 20), (6, false, some 11), (16, false, some 21), (17, true, some 22), (18, true, some 23)] (by kernel_rfl) (by kernel_rfl) (by kernel_rfl) (by kernel_rfl) (fun d c a v w h => by cases d <;> exact h) hHeld ?_
    repeat (first
      | (refine planWp_read (v := ?_) rfl rfl ?_ ?_ ?_; rotate_left; (focus rfl); (focus (intro u hSw; (try dsimp only at hSw); go_simp; (try with_reducible rfl))); (try simp only [Act.put, List.setIfInBounds_toArray, List.set_cons_zero, List.set_cons_succ]))
      | (refine planWp_skip rfl rfl ?_ ?_; (focus rfl); (try simp only [Act.put, List.setIfInBounds_toArray, List.set_cons_zero, List.set_cons_succ]))
      | (refine planWp_leave rfl rfl ?_ hHeld ?_; (focus rfl); (try simp only [Act.put, List.setIfInBounds_toArray, List.set_cons_zero, List.set_cons_succ]))
      | (refine planWp_do rfl rfl ?_ (fun K hK => ?_); (focus rfl); go_simp; (try go_wp2_with (first | (go_at_call 83; refine (lenm (H.out.memory.fresh hHeld.2.2.2.out)).mono ?_; rintro e w1 ⟨rfl, hcx⟩; have HCX := Lib.hid hcx; clear hcx) | (go_at_call 85; refine (Inside_any _ _ _ _ (by omega) (by have := HLEN.out; omega)).mono ?_; rintro e w1 ⟨rfl, hcx⟩; have HCX := Lib.hid hcx; clear hcx))); refine hK.out _ _ ?_ (fun hHeld2 => ?_); (focus (exact KEEP.out _ (Chg.trans hHeld.2.2.2.out HCX.out))); clear hK K hHeld; have hHeld := hHeld2; clear hHeld2; (try simp only [Act.put, List.setIfInBounds_toArray, List.set_cons_zero, List.set_cons_succ])))
    refine planWp_nil ?_
    refine then_gen (R := fun V => Hid (Chg [] W V)) (Lib.hid hHeld.2.2.2.out) ?_
    clear hHeld KEEP
    rintro W1 HC1
    go_wp2_with fail
    go_ret
    exact ⟨rfl, HC1.out⟩
  · have HOV := Lib.hid hov
    clear hov
    go_enter Try.func57, Try.ntmps57
    go_wp2_with fail
    have eS0 : W.cell? ⟨bx, 22, none⟩ = some (.bool false) := by rw [← HOV.out]; exact H.out.cell 22 _ (fun _ => rfl)
    have eS1 : W.cell? ⟨bx, 18, none⟩ = some (.int .i64 x.base) := H.out.cell 18 _ (fun _ => rfl)
    have eS2 : W.cell? ⟨bx, 19, none⟩ = some (.int .i64 x.size) := H.out.cell 19 _ (fun _ => rfl)
    have KEEP := Lib.hid (fun (V : World) (h : Chg [] W V) => (⟨h.keep eS0 (by simp), h.keep eS1 (by simp), h.keep eS2 (by simp), Lib.hid h⟩ : (fun V : World => V.cell? ⟨bx, 22, none⟩ = some (.bool false) ∧ V.cell? ⟨bx, 18, none⟩ = some (.int .i64 x.base) ∧ V.cell? ⟨bx, 19, none⟩ = some (.int .i64 x.size) ∧ Hid (Chg [] W V)) V))
    clear eS0 eS1 eS2
    have hHeld : (fun V : World => V.cell? ⟨bx, 22, none⟩ = some (.bool false) ∧ V.cell? ⟨bx, 18, none⟩ = some (.int .i64 x.base) ∧ V.cell? ⟨bx, 19, none⟩ = some (.int .i64 x.size) ∧ Hid (Chg [] W V)) (World.drew W) := KEEP.out _ (Chg.refl _ _).drew
    refine wp_region_plan (fun V : World => V.cell? ⟨bx, 22, none⟩ = some (.bool false) ∧ V.cell? ⟨bx, 18, none⟩ = some (.int .i64 x.base) ∧ V.cell? ⟨bx, 19, none⟩ = some (.int .i64 x.size) ∧ Hid (Chg [] W V)) [(0, true, some 5), (1, true, some 6), (2, true, some 7), (3, true, some 8), (4, true, some 9), (5, true, some 10), (7, true, some 12), (8, true, some 13), (9, true, some 14), (10, true, some 15), (11, true, some 16), (12, true, some 17), (13, true, some 18), (14, true, some 19), (15, true, some 20), (6, false, some 11), (16, false, some 21), (17, true, some 22), (18, true, some 23)] (by kernel_rfl) (by kernel_rfl) (by kernel_rfl) (by kernel_rfl) (fun d c a v w h => by cases d <;> exact h) hHeld ?_
    repeat (first
      | (refine planWp_read (v := ?_) rfl rfl ?_ ?_ ?_; rotate_left; (focus rfl); (focus (intro u hSw; (try dsimp only at hSw); go_simp; (try with_reducible rfl))); (try simp only [Act.put, List.setIfInBounds_toArray, List.set_cons_zero, List.set_cons_succ]))
      | (refine planWp_skip rfl rfl ?_ ?_; (focus rfl); (try simp only [Act.put, List.setIfInBounds_toArray, List.set_cons_zero, List.set_cons_succ]))
      | (refine planWp_leave rfl rfl ?_ hHeld ?_; (focus rfl); (try simp only [Act.put, List.setIfInBounds_toArray, List.set_cons_zero, List.set_cons_succ]))
      | (refine planWp_do rfl rfl ?_ (fun K hK => ?_); (focus rfl); go_simp; (try go_wp2_with (first | (go_at_call 83; refine (lenm (H.out.memory.fresh hHeld.2.2.2.out)).mono ?_; rintro e w1 ⟨rfl, hcx⟩; have HCX := Lib.hid hcx; clear hcx) | (go_at_call 85; refine (Inside_any _ _ _ _ (by omega) (by have := HLEN.out; omega)).mono ?_; rintro e w1 ⟨rfl, hcx⟩; have HCX := Lib.hid hcx; clear hcx))); refine hK.out _ _ ?_ (fun hHeld2 => ?_); (focus (exact KEEP.out _ (Chg.trans hHeld.2.2.2.out HCX.out))); clear hK K hHeld; have hHeld := hHeld2; clear hHeld2; (try simp only [Act.put, List.setIfInBounds_toArray, List.set_cons_zero, List.set_cons_succ])))
    refine planWp_nil ?_
    refine then_gen (R := fun V => Hid (Chg [] W V)) (Lib.hid hHeld.2.2.2.out) ?_
    clear hHeld KEEP
    rintro W1 HC1
    go_wp2_with fail
    go_ret
    exact ⟨rfl, HC1.out⟩
end Go.Proofs.Ytbbpnpokccfhjaa.core
