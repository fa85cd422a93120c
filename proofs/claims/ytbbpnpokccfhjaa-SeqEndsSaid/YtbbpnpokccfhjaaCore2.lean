/- Package micro: a word is read, or written; a step is opened; an attempt fails. -/
import Derived.Test.YtbbpnpokccfhjaaCore1
import Derived.Test.YtbbpnpokccfhjaaPlan2
namespace Go.Proofs.Ytbbpnpokccfhjaa.core
open Go Go.RowKit Go.Proofs.Ytbbpnpokccfhjaa.kit Go.Proofs.Ytbbpnpokccfhjaa.mem
set_option linter.unusedVariables false
set_option maxRecDepth 20000

theorem rd {W : World} {mb : Nat} {sv : Value} {ws : List Int} {n : Int} (i : Nat) (h : MemAt W mb sv ws n) (hi : i < ws.length) (hn : 0 ≤ n ∧ n ≤ 1000000) :
    Calls Try.prog 103 #[.pointer (some ⟨mb, 0, none⟩), .int .i64 i] W fun e w' => e = .returned (.tuple #[.int .u32 (ws.getD i 0), .int .i64 0]) ∧ MemAt w' mb sv ws (n + 1) ∧ Chg (mb :: sv.ownBlock.toList) W w' := by
  obtain ⟨g, c, rfl⟩ := h.live (by omega)
  exact (Read_ok mb g c ws n i W h hi (by omega) (by omega)).mono (by rintro e w' ⟨h1, h2, h3⟩; exact ⟨h1, h2, h3.mono (by simp)⟩)
theorem u32_wf {u : Int} (h : 0 ≤ u ∧ u ≤ 4294967295) : (Lit.int .u32 u).wf = true := by simp [Lit.wf, IntKind.min, IntKind.max, IntKind.signed, IntKind.bits]; omega
theorem wrt {W : World} {mb : Nat} {sv : Value} {ws : List Int} {n : Int} (i : Nat) (u : Int) (h : MemAt W mb sv ws n) (hi : i < ws.length) (hn : 0 ≤ n ∧ n ≤ 1000000) (hu : 0 ≤ u ∧ u ≤ 4294967295) :
    Calls Try.prog 63 #[.pointer (some ⟨mb, 0, none⟩), .int .i64 i, .int .u32 u] W fun e w' => e = .returned (.int .i64 0) ∧ MemAt w' mb sv (ws.set i u) (n + 1) ∧ Chg (mb :: sv.ownBlock.toList) W w' := by
  obtain ⟨g, c, rfl⟩ := h.live (by omega)
  exact (Write_ok mb g c ws n i u W h hi (by omega) (by omega) (u32_wf hu)).mono (by rintro e w' ⟨h1, h2, h3⟩; exact ⟨h1, h2, h3.mono (by simp [Value.ownBlock])⟩)
theorem lenm {W : World} {mb : Nat} {sv : Value} {ws : List Int} {n : Int} (h : MemAt W mb sv ws n) :
    Calls Try.prog 83 #[.pointer (some ⟨mb, 0, none⟩)] W fun e w' => e = .returned (.int .i64 ws.length) ∧ Chg [] W w' := (Len_any mb sv ws n W h).mono (by rintro e w' ⟨h1, rfl⟩; exact ⟨h1, Chg.refl _ _⟩)

set_option maxHeartbeats 2000000 in
theorem Read_at {T : TypeId} {bx mb : Nat} {sv r0 : Value} {W0 W : World} {x : Core} {rec ws : List Int} {n : Int} (bN j : Nat) (hm : x.m = .pointer (some ⟨mb, 0, none⟩)) (hb : x.base = (bN : Int)) (hj : bN + j < ws.length) (hn : 0 ≤ n ∧ n ≤ 1000000) (h : St T bx mb sv W0 r0 W x rec ws n) :
    Calls Try.prog 86 #[.pointer (some ⟨bx, 0, none⟩), .int .i64 (j : Int)] W fun e W' => e = .returned (.int .u32 (ws.getD (bN + j) 0)) ∧ St T bx mb sv W0 r0 W' x rec ws (n + 1) ∧ MemAt W' mb sv ws (n + 1) ∧ Chg (mb :: sv.ownBlock.toList) W W' := by
  have H := Lib.hid h
  have hadd : IntKind.i64.wrap ((bN : Int) + (j : Int)) = ((bN + j : Nat) : Int) := by
    have hlen : bN + j ≤ 4096 := by have := h.memory.short; omega
    rw [IntKind.wrap_i64]; omega
  have HADD := Lib.hid hadd
  have NB : Hid (bx ∉ (mb :: sv.ownBlock.toList)) := Lib.hid (by obtain ⟨v, hp, he⟩ := h; simp; exact ⟨hp.ne, fun hh => hp.ns bx hh rfl⟩)
  have e17 : W.cell? ⟨bx, 17, none⟩ = some (.pointer (some ⟨mb, 0, none⟩)) := by rw [← hm]; exact H.out.cell 17 _ (fun _ => rfl)
  have e18 : W.cell? ⟨bx, 18, none⟩ = some (.int .i64 (bN : Int)) := by rw [← hb]; exact H.out.cell 18 _ (fun _ => rfl)
  have KEEP := Lib.hid (fun (V : World) (h : Chg (mb :: sv.ownBlock.toList) W V) => (⟨h.keep e17 NB.out, h.keep e18 NB.out, Lib.hid h⟩ : (fun V : World => V.cell? ⟨bx, 17, none⟩ = some (.pointer (some ⟨mb, 0, none⟩)) ∧ V.cell? ⟨bx, 18, none⟩ = some (.int .i64 (bN : Int)) ∧ Hid (Chg (mb :: sv.ownBlock.toList) W V)) V))
  have HJ := Lib.hid hj
  have HN := Lib.hid hn
  clear h hm hb e17 e18 hj hn hadd
  go_enter Try.func86, Try.ntmps86
  go_wp2_with fail
  have hHeld : (fun V : World => V.cell? ⟨bx, 17, none⟩ = some (.pointer (some ⟨mb, 0, none⟩)) ∧ V.cell? ⟨bx, 18, none⟩ = some (.int .i64 (bN : Int)) ∧ Hid (Chg (mb :: sv.ownBlock.toList) W V)) (World.drew W) := KEEP.out _ (Chg.refl _ _).drew
  refine wp_region_plan (fun V : World => V.cell? ⟨bx, 17, none⟩ = some (.pointer (some ⟨mb, 0, none⟩)) ∧ V.cell? ⟨bx, 18, none⟩ = some (.int .i64 (bN : Int)) ∧ Hid (Chg (mb :: sv.ownBlock.toList) W V)) [(0, true, some 8), (1, true, some 9), (2, true, some 10), (3, true, some 11), (4, true, some 12), (5, true, some 13), (6, true, some 14), (7, true, some 15), (8, true, some 16), (9, true, some 17), (10, false, some 18), (11, true, some 7), (12, true, some 19), (13, true, some 20), (14, true, some 5), (15, true, some 6)] (by kernel_rfl) (by kernel_rfl) (by kernel_rfl) (by kernel_rfl) (fun d c a v w h => by cases d <;> exact h) hHeld ?_
  repeat (first
    | (refine planWp_read (v := ?_) rfl rfl ?_ ?_ ?_; rotate_left; (focus rfl); (focus (intro u hSw; (try dsimp only at hSw); go_simp; (try with_reducible rfl))); (try simp only [Act.put, List.setIfInBounds_toArray, List.set_cons_zero, List.set_cons_succ]))
    | (refine planWp_skip rfl rfl ?_ ?_; (focus rfl); (try simp only [Act.put, List.setIfInBounds_toArray, List.set_cons_zero, List.set_cons_succ]))
    | (refine planWp_leave rfl rfl ?_ hHeld ?_; (focus rfl); (try simp only [Act.put, List.setIfInBounds_toArray, List.set_cons_zero, List.set_cons_succ]))
    | (refine planWp_do rfl rfl ?_ (fun K hK => ?_); (focus rfl); go_simp; (try go_wp2_with (go_at_call 103; rw [HADD.out]; refine (rd (bN + j) (H.out.memory.fresh (Chg.refl _ _).drew) HJ.out HN.out).mono ?_; rintro e w1 ⟨rfl, hx⟩; have HX := Lib.hid hx; clear hx)); refine hK.out _ _ ?_ (fun hHeld2 => ?_); (focus (exact KEEP.out _ (Chg.trans hHeld.2.2.out HX.out.2))); clear hK K hHeld; have hHeld := hHeld2; clear hHeld2; (try simp only [Act.put, List.setIfInBounds_toArray, List.set_cons_zero, List.set_cons_succ])))
  refine planWp_nil ?_
  have HE := Lib.hid hHeld.2.2.out
  clear hHeld KEEP
  go_wp2_with fail
  go_ret
  exact ⟨rfl, H.out.byMem HE.out HX.out.1, HX.out.1, HE.out⟩

set_option maxHeartbeats 2000000 in
theorem Write_at {T : TypeId} {bx mb : Nat} {sv r0 : Value} {W0 W : World} {x : Core} {rec ws : List Int} {n : Int} (bN j : Nat) (u : Int) (hu : 0 ≤ u ∧ u ≤ 4294967295) (hm : x.m = .pointer (some ⟨mb, 0, none⟩)) (hb : x.base = (bN : Int)) (hj : bN + j < ws.length) (hn : 0 ≤ n ∧ n ≤ 1000000) (h : St T bx mb sv W0 r0 W x rec ws n) :
    Calls Try.prog 90 #[.pointer (some ⟨bx, 0, none⟩), .int .i64 (j : Int), .int .u32 u] W fun e W' => e = .returned (.tuple #[]) ∧ St T bx mb sv W0 r0 W' x rec (ws.set (bN + j) u) (n + 1) := by
  have H := Lib.hid h
  have hadd : IntKind.i64.wrap ((bN : Int) + (j : Int)) = ((bN + j : Nat) : Int) := by
    have hlen : bN + j ≤ 4096 := by have := h.memory.short; omega
    rw [IntKind.wrap_i64]; omega
  have HADD := Lib.hid hadd
  have NB : Hid (bx ∉ (mb :: sv.ownBlock.toList)) := Lib.hid (by obtain ⟨v, hp, he⟩ := h; simp; exact ⟨hp.ne, fun hh => hp.ns bx hh rfl⟩)
  have e17 : W.cell? ⟨bx, 17, none⟩ = some (.pointer (some ⟨mb, 0, none⟩)) := by rw [← hm]; exact H.out.cell 17 _ (fun _ => rfl)
  have e18 : W.cell? ⟨bx, 18, none⟩ = some (.int .i64 (bN : Int)) := by rw [← hb]; exact H.out.cell 18 _ (fun _ => rfl)
  have KEEP := Lib.hid (fun (V : World) (h : Chg (mb :: sv.ownBlock.toList) W V) => (⟨h.keep e17 NB.out, h.keep e18 NB.out, Lib.hid h⟩ : (fun V : World => V.cell? ⟨bx, 17, none⟩ = some (.pointer (some ⟨mb, 0, none⟩)) ∧ V.cell? ⟨bx, 18, none⟩ = some (.int .i64 (bN : Int)) ∧ Hid (Chg (mb :: sv.ownBlock.toList) W V)) V))
  have HJ := Lib.hid hj
  have HN := Lib.hid hn
  clear h hm hb e17 e18 hj hn hadd
  go_enter Try.func90, Try.ntmps90
  go_wp2_with fail
  have hHeld : (fun V : World => V.cell? ⟨bx, 17, none⟩ = some (.pointer (some ⟨mb, 0, none⟩)) ∧ V.cell? ⟨bx, 18, none⟩ = some (.int .i64 (bN : Int)) ∧ Hid (Chg (mb :: sv.ownBlock.toList) W V)) (World.drew W) := KEEP.out _ (Chg.refl _ _).drew
  refine wp_region_plan (fun V : World => V.cell? ⟨bx, 17, none⟩ = some (.pointer (some ⟨mb, 0, none⟩)) ∧ V.cell? ⟨bx, 18, none⟩ = some (.int .i64 (bN : Int)) ∧ Hid (Chg (mb :: sv.ownBlock.toList) W V)) [(0, true, some 6), (1, true, some 7), (2, true, some 8), (3, true, some 9), (4, true, some 10), (5, true, some 11), (6, true, some 12), (7, true, some 13), (8, true, some 14), (9, true, some 15), (10, true, some 16), (11, false, some 17)] (by kernel_rfl) (by kernel_rfl) (by kernel_rfl) (by kernel_rfl) (fun d c a v w h => by cases d <;> exact h) hHeld ?_
  repeat (first
    | (refine planWp_read (v := ?_) rfl rfl ?_ ?_ ?_; rotate_left; (focus rfl); (focus (intro u hSw; (try dsimp only at hSw); go_simp; (try with_reducible rfl))); (try simp only [Act.put, List.setIfInBounds_toArray, List.set_cons_zero, List.set_cons_succ]))
    | (refine planWp_skip rfl rfl ?_ ?_; (focus rfl); (try simp only [Act.put, List.setIfInBounds_toArray, List.set_cons_zero, List.set_cons_succ]))
    | (refine planWp_leave rfl rfl ?_ hHeld ?_; (focus rfl); (try simp only [Act.put, List.setIfInBounds_toArray, List.set_cons_zero, List.set_cons_succ]))
    | (refine planWp_do rfl rfl ?_ (fun K hK => ?_); (focus rfl); go_simp; (try go_wp2_with (go_at_call 63; rw [HADD.out]; refine (wrt (bN + j) u (H.out.memory.fresh (Chg.refl _ _).drew) HJ.out HN.out hu).mono ?_; rintro e w1 ⟨rfl, hx⟩; have HX := Lib.hid hx; clear hx)); refine hK.out _ _ ?_ (fun hHeld2 => ?_); (focus (exact KEEP.out _ (Chg.trans hHeld.2.2.out HX.out.2))); clear hK K hHeld; have hHeld := hHeld2; clear hHeld2; (try simp only [Act.put, List.setIfInBounds_toArray, List.set_cons_zero, List.set_cons_succ])))
  refine planWp_nil ?_
  have HE := Lib.hid hHeld.2.2.out
  clear hHeld KEEP
  go_wp2_with fail
  go_end0
  exact ⟨rfl, H.out.byMem HE.out HX.out.1⟩
end Go.Proofs.Ytbbpnpokccfhjaa.core
