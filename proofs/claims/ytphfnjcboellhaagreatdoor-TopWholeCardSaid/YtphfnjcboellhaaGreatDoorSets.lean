import Derived.Test.YtphfnjcboellhaaGreatDoorLoad
import Derived.Test.YtphfnjcboellhaaGreatDoorTab
namespace Go.Proofs.YtphfnjcboellhaaGreatDoor.core
open Go Go.RowKit kit mem rop
set_option maxRecDepth 20000
theorem Mark_any {T : TypeId} {bx mb : Nat} {sv r0 : Value} {W0 W : World} {x : Core} {rec ws : List Int} {n : Int} (s : Int) (hs : 0 <= s /\ s <= 4294967295) (hu : 0 <= x.used /\ x.used < 2097152) (h : St T bx mb sv W0 r0 W x rec ws n) :
 Calls Tryz.prog 152 #[.pointer (some ⟨bx, 0, none⟩), .int .u32 s] W fun e W' => e = .returned (.tuple #[]) /\ St T bx mb sv W0 r0 W' { x with used := bitm.markU x.used s } rec ws n := by
 have H := hid h
 obtain ⟨U, hU⟩ : ∃ U : Nat, x.used = (U : Int) := ⟨x.used.toNat, by omega⟩
 obtain ⟨iN, hiN⟩ : ∃ iN : Nat, min s 20 = (iN : Int) := ⟨(min s 20).toNat, by omega⟩
 have hv : bitm.markU x.used s = ((U ||| 2 ^ iN : Nat) : Int) := by unfold bitm.markU; rw [hU, hiN]; simp
 have HP := hid (fun V => bitm.Put_any U iN (by omega) (by omega) V)
 have e15 : W.cell? ⟨bx, 15, none⟩ = some (.int .u64 (U : Int)) := by rw [<- hU]; exact H.out.cell 15 _ (fun _ => rfl)
 have f15 := H.out.free 15
 have hcv : IntKind.i64.wrap (iN : Int) = (iN : Int) := by rw [IntKind.wrap_i64]; omega
 rw [hv]
 generalize (U ||| 2 ^ iN) = R at *
 by_cases h20 : s <= 20
 · obtain rfl : s = (iN : Int) := by omega
   have h20b : (iN : Int) <= 20 := h20
   have h20c : ¬ ((20 : Int) < (iN : Int)) := by omega
   clear hs hu h hU hiN hv
   go_enter Tryz.func152, Tryz.ntmps152
   go_wp2_with (go_at_call 157; refine (HP.out _).mono ?_; rintro e w' ⟨rfl, rfl⟩)
   go_end0
   exact ⟨rfl, H.out.put 15 (.int .u64 (R : Int)) { x with used := (R : Int) } (fun _ => rfl)⟩
 · have h20b : ¬ s <= 20 := h20
   have h20c : (20 : Int) < s := by omega
   obtain rfl : iN = 20 := by omega
   clear hs hu h hU hiN hv hcv
   go_enter Tryz.func152, Tryz.ntmps152
   go_wp2_with (go_at_call 157; refine (HP.out _).mono ?_; rintro e w' ⟨rfl, rfl⟩)
   go_end0
   exact ⟨rfl, H.out.put 15 (.int .u64 (R : Int)) { x with used := (R : Int) } (fun _ => rfl)⟩
theorem Free_any {T : TypeId} {bx mb : Nat} {sv r0 : Value} {W0 W : World} {x : Core} {rec ws : List Int} {n : Int} (hT : bitm.Tab W) (hu : 0 <= x.used /\ x.used < 2097152) (h : St T bx mb sv W0 r0 W x rec ws n) :
 Calls Tryz.prog 153 #[.pointer (some ⟨bx, 0, none⟩)] W fun e W' => e = .returned (.int .u32 (bitm.freeU x.used)) /\ W = W' := by
 have H := hid h
 obtain ⟨U, hU⟩ : ∃ U : Nat, x.used = (U : Int) := ⟨x.used.toNat, by omega⟩
 have hfb := bitm.freeU_bd (u := x.used) (by omega)
 obtain ⟨f, hf⟩ : ∃ f : Nat, Lib.ctz 64 (18446744073709551615 - U) = f := ⟨_, rfl⟩
 have hv : bitm.freeU x.used = (f : Int) := by unfold bitm.freeU; rw [hU, Int.toNat_natCast, hf]
 rw [hv] at hfb ⊢
 have hp := fun V (ht : bitm.Tab V) => bitm.First_any (18446744073709551615 - U) (by omega) (by omega) V ht
 rw [hf] at hp
 have HP := hid hp
 have HT := hid hT
 have e15 : W.cell? ⟨bx, 15, none⟩ = some (.int .u64 (U : Int)) := by rw [<- hU]; exact H.out.cell 15 _ (fun _ => rfl)
 have hxr := bitm.xor_top U (by omega)
 have hcv : IntKind.u32.wrap (f : Int) = (f : Int) := by rw [IntKind.wrap_u32]; omega
 generalize 18446744073709551615 - U = X at *
 have HXR := hid hxr
 clear hxr hT hu h hU hv hf hp hfb
 go_enter Tryz.func153, Tryz.ntmps153
 go_wp2_with (go_at_call 158; (first | rw [HXR.out] | rw [show IntKind.u64.max = (if IntKind.u64.signed = true then (-1 : Int) else IntKind.u64.max) from by decide, HXR.out]); refine (HP.out _ HT.out).mono ?_; rintro e w' ⟨rfl, rfl⟩)
 go_ret
 exact ⟨rfl, rfl⟩
def swapL (ws : List Int) (i : Nat) (was now : Int) : List Int := if ws.getD i 0 = was then ws.set i now else ws
theorem swapL_length (ws : List Int) (i : Nat) (was now : Int) : (swapL ws i was now).length = ws.length := by unfold swapL; split <;> simp
theorem casm {W : World} {mb : Nat} {sv : Value} {ws : List Int} {n : Int} (i : Nat) (was now : Int) (h : MemAt W mb sv ws n) (hi : i < ws.length) (hn : 0 <= n /\ n <= 1000000) (hu : 0 <= now /\ now <= 4294967295) :
 Calls Tryz.prog 154 #[.pointer (some ⟨mb, 0, none⟩), .int .i64 i, .int .u32 was, .int .u32 now] W fun e w' => ∃ b, e = .returned (.tuple #[.bool b, .int .i64 0]) /\ MemAt w' mb sv (swapL ws i was now) (n + 1) /\ Chg (mb :: sv.ownBlock.toList) W w' := by
 obtain ⟨g, c, rfl⟩ := h.live (by omega)
 unfold swapL
 split
 · rename_i he
   exact (Cas_yes mb g c ws n i was now W h hi (by omega) (by omega) (u32_wf hu) he).mono (by rintro e w' ⟨h1, h2, h3⟩; exact ⟨_, h1, h2, h3.mono (by simp [Value.ownBlock])⟩)
 · rename_i he
   exact (Cas_no mb g c ws n i was now W h hi (by omega) (by omega) he).mono (by rintro e w' ⟨h1, h2, h3⟩; exact ⟨_, h1, h2, h3.mono (by simp [Value.ownBlock])⟩)
set_option maxHeartbeats 2000000 in
theorem Swap_at {T : TypeId} {bx mb : Nat} {sv r0 : Value} {W0 W : World} {x : Core} {rec ws : List Int} {n : Int} (bN j : Nat) (was u : Int) (hu : 0 <= u /\ u <= 4294967295) (hm : x.m = .pointer (some ⟨mb, 0, none⟩)) (hb : x.base = (bN : Int)) (hj : bN + j < ws.length) (hn : 0 <= n /\ n <= 1000000) (h : St T bx mb sv W0 r0 W x rec ws n) :
 Calls Tryz.prog 135 #[.pointer (some ⟨bx, 0, none⟩), .int .i64 (j : Int), .int .u32 was, .int .u32 u] W fun e W' => e = .returned (.tuple #[]) /\ St T bx mb sv W0 r0 W' x rec (swapL ws (bN + j) was u) (n + 1) := by
 have H := hid h
 have hadd : IntKind.i64.wrap ((bN : Int) + (j : Int)) = ((bN + j : Nat) : Int) := by
  have hlen : bN + j <= 4096 := by have := h.memory.short; omega
  rw [IntKind.wrap_i64]; omega
 have HADD := hid hadd
 have NB : Hid (bx ∉ (mb :: sv.ownBlock.toList)) := hid (by obtain ⟨v, hp, he⟩ := h; simp; exact ⟨hp.ne, fun hh => hp.ns bx hh rfl⟩)
 have eS0 : W.cell? ⟨bx, 17, none⟩ = some (.pointer (some ⟨mb, 0, none⟩)) := by rw [<- hm]; exact H.out.cell 17 _ (fun _ => rfl)
 have eS1 : W.cell? ⟨bx, 18, none⟩ = some (.int .i64 (bN : Int)) := by rw [<- hb]; exact H.out.cell 18 _ (fun _ => rfl)
 have KEEP := hid (fun (V : World) (h : Chg (mb :: sv.ownBlock.toList) W V) => (⟨h.keep eS0 NB.out, h.keep eS1 NB.out, hid h⟩ : (fun V : World => V.cell? ⟨bx, 17, none⟩ = some (.pointer (some ⟨mb, 0, none⟩)) /\ V.cell? ⟨bx, 18, none⟩ = some (.int .i64 (bN : Int)) /\ Hid (Chg (mb :: sv.ownBlock.toList) W V)) V))
 clear eS0 eS1
 have HJ := hid hj
 have HN := hid hn
 clear h hm hb hj hn hadd
 go_enter Tryz.func135, Tryz.ntmps135
 go_wp2_with fail
 have hHeld : (fun V : World => V.cell? ⟨bx, 17, none⟩ = some (.pointer (some ⟨mb, 0, none⟩)) /\ V.cell? ⟨bx, 18, none⟩ = some (.int .i64 (bN : Int)) /\ Hid (Chg (mb :: sv.ownBlock.toList) W V)) (World.drew W) := KEEP.out _ (Chg.refl _ _).drew
 refine wp_region_plan (fun V : World => V.cell? ⟨bx, 17, none⟩ = some (.pointer (some ⟨mb, 0, none⟩)) /\ V.cell? ⟨bx, 18, none⟩ = some (.int .i64 (bN : Int)) /\ Hid (Chg (mb :: sv.ownBlock.toList) W V)) [(0, true, some 8), (1, true, some 9), (2, true, some 10), (3, true, some 11), (4, true, some 12), (5, true, some 13), (6, true, some 14), (7, true, some 15), (8, true, some 16), (9, true, some 17), (10, true, some 18), (11, true, some 19), (12, false, some 20)] (by kernel_rfl) (by kernel_rfl) (by kernel_rfl) (by kernel_rfl) (fun d c a v w h => by cases d <;> exact h) hHeld ?_
 repeat (first
  | (refine planWp_read (v := ?_) rfl rfl ?_ ?_ ?_; rotate_left; (focus rfl); (focus (intro u hSw; (try dsimp only at hSw); go_simp; (try with_reducible rfl))); (try simp only [Act.put, sA, sB, sC]))
  | (refine planWp_skip rfl rfl ?_ ?_; (focus rfl); (try simp only [Act.put, sA, sB, sC]))
  | (refine planWp_leave rfl rfl ?_ hHeld ?_; (focus rfl); (try simp only [Act.put, sA, sB, sC]))
  | (refine planWp_do rfl rfl ?_ (fun K hK => ?_); (focus rfl); go_simp; (try go_wp2_with (go_at_call 154; rw [HADD.out]; refine (casm (bN + j) was u (H.out.memory.fresh (Chg.refl _ _).drew) HJ.out HN.out hu).mono ?_; rintro e w1 ⟨b1, rfl, hx⟩; have HX := hid hx; clear hx)); refine hK.out _ _ ?_ (fun hHeld2 => ?_); (focus (exact KEEP.out _ (Chg.trans hHeld.2.2.out HX.out.2))); clear hK K hHeld; have hHeld := hHeld2; clear hHeld2; (try simp only [Act.put, sA, sB, sC])))
 refine planWp_nil ?_
 have HE := hid hHeld.2.2.out
 clear hHeld KEEP
 go_wp2_with fail
 go_end0
 exact ⟨rfl, H.out.byMem HE.out HX.out.1⟩
end Go.Proofs.YtphfnjcboellhaaGreatDoor.core
