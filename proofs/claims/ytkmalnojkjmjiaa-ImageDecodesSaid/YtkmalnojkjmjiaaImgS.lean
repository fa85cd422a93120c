/- Images: the reference's reader. -/
import Derived.Test.YtkmalnojkjmjiaaImgG
import Derived.Test.YtkmalnojkjmjiaaCodecW6
namespace Go.Proofs.Ytkmalnojkjmjiaa.img
open Go Go.RowKit Go.Proofs.Ytkmalnojkjmjiaa.kit Go.Proofs.Ytkmalnojkjmjiaa.obj Go.Proofs.Ytkmalnojkjmjiaa.mem Go.Proofs.Ytkmalnojkjmjiaa.lay Go.Proofs.Ytkmalnojkjmjiaa.codec Go.Proofs.Ytkmalnojkjmjiaa.blk
set_option linter.unusedVariables false
set_option linter.unusedSimpArgs false
set_option maxRecDepth 20000
/-- the reference's reader, in some state: its box b, the bytes that it reads, which lie ahead of it -/
structure RQ (w : World) (b : Nat) (v : Value) (zs : List Int) (s : St) : Prop where
  box : Blk w b #[v, .int .i64 (s.at_ : Int), .bool s.bad] 57
  rest : ∃ W0 : World, W0.heap.size ≤ b ∧ Chg [] W0 w ∧ ReadsB W0 v zs
  at_le : s.at_ ≤ zs.length
  len : zs.length ≤ 65536
theorem RQ.reads {w : World} {b : Nat} {v : Value} {zs : List Int} {s : St} (h : RQ w b v zs s) : ReadsB w v zs := by
  obtain ⟨W0, _, h2, h3⟩ := h.rest
  exact h3.chg h2
theorem rq_rest {w w' : World} {b : Nat} {v : Value} {zs : List Int} {s : St} {L : List Nat} (h : RQ w b v zs s) (k : Chg L w w') (hL : ∀ x ∈ L, b ≤ x) : ∃ W0 : World, W0.heap.size ≤ b ∧ Chg [] W0 w' ∧ ReadsB W0 v zs := by
  obtain ⟨W0, h1, h2, h3⟩ := h.rest
  exact ⟨W0, h1, h2.into k (fun x hx => .inr (Nat.le_trans h1 (hL x hx))), h3⟩
theorem RQ.keep {w w' : World} {b : Nat} {v : Value} {zs : List Int} {s : St} {L : List Nat} (h : RQ w b v zs s) (k : Chg L w w') (hL : ∀ x ∈ L, b < x) : RQ w' b v zs s :=
  ⟨h.box.keep k (fun hm => by have := hL b hm; omega), rq_rest h k (fun x hx => Nat.le_of_lt (hL x hx)), h.at_le, h.len⟩
theorem rd_le {zs : List Int} {n : Nat} {s : St} (h : s.at_ ≤ zs.length) : (rdS zs n s).at_ ≤ zs.length := by
  unfold rdS
  split
  · exact h
  · split
    · exact h
    · show s.at_ + n ≤ _; omega
theorem rq_spoil {w : World} {b : Nat} {v : Value} {zs : List Int} {a : Nat} {bad : Bool} {q : Nat} (h : RQ w b v zs ⟨a, bad⟩) : RQ ((w.drewN q).setCell ⟨b, 2, none⟩ (.bool true)) b v zs ⟨a, true⟩ := by
  have hk : Chg [b] w ((w.drewN q).setCell ⟨b, 2, none⟩ (.bool true)) := ((Chg.refl _ _).drewN q).setCell (.inl (by simp)) _
  exact ⟨(h.box.drewN q).set 2 (.bool true), rq_rest h hk (fun x hx => by simp at hx; omega), h.at_le, h.len⟩
theorem rq_move {w w1 : World} {b : Nat} {v : Value} {zs : List Int} {a n : Nat} (h : RQ w b v zs ⟨a, false⟩) (hq : Chg [] w w1) (hn : a + n ≤ zs.length) : RQ (w1.setCell ⟨b, 1, none⟩ (.int .i64 ((a : Int) + (n : Int)))) b v zs ⟨a + n, false⟩ := by
  have hk : Chg [b] w (w1.setCell ⟨b, 1, none⟩ (.int .i64 ((a : Int) + (n : Int)))) := (hq.mono (by simp)).setCell (.inl (by simp)) _
  refine ⟨?_, rq_rest h hk (fun x hx => by simp at hx; omega), hn, h.len⟩
  have h9 := (h.box.keep hq (by simp)).set 1 (.int .i64 ((a : Int) + (n : Int)))
  show Blk _ _ #[v, .int .i64 ((a + n : Nat) : Int), .bool false] _
  rw [Int.natCast_add]
  exact h9
set_option maxHeartbeats 2000000 in
theorem rnum_bad (b : Nat) (v : Value) (zs : List Int) (s : St) (n : Nat) (hn : n ≤ 4) (w : World) (h : RQ w b v zs s) (hb : s.bad = true ∨ zs.length < s.at_ + n) :
    Calls Try.prog 25 #[.pointer (some ⟨b, 0, none⟩), .int .i64 n] w fun e w' => e = .returned (.int .i64 0) ∧ RQ w' b v zs ⟨s.at_, true⟩ ∧ Chg [b] w w' := by
  obtain ⟨a, bad⟩ := s
  obtain ⟨va, vc, rfl, -⟩ := reads_slice h.reads.1
  have c0 : w.cell? ⟨b, 0, none⟩ = some (.slice va zs.length vc) := h.box.cell rfl
  have c1 : w.cell? ⟨b, 1, none⟩ = some (.int .i64 (a : Int)) := h.box.cell rfl
  have c2 : w.cell? ⟨b, 2, none⟩ = some (.bool bad) := h.box.cell rfl
  have f2 := h.box.free 2
  have hl : (zs.length : Int) ≤ 65536 := by have := h.len; omega
  have ha : (a : Int) ≤ 65536 := by have := h.at_le; have := h.len; dsimp only at *; omega
  have HR := Lib.hid h
  dsimp only at hb ⊢
  cases bad with
  | true =>
    clear hb h
    go_enter Try.func25, Try.ntmps25
    go_wp2
    go_quiet (fail)
    go_wp2
    go_ret
    exact ⟨rfl, rq_spoil HR.out, ((Chg.refl _ _).drewN _).setCell (.inl (by simp)) _⟩
  | false =>
    have hlt : zs.length < a + n := by rcases hb with hb | hb; cases hb; exact hb
    have k1 : IntKind.i64.wrap ((zs.length : Int) - (a : Int)) = (zs.length : Int) - (a : Int) := by rw [IntKind.wrap_i64]; omega
    have hd : decide ((zs.length : Int) - (a : Int) < (n : Int)) = true := by simp; omega
    clear hb h hlt
    go_enter Try.func25, Try.ntmps25
    go_wp2
    go_quiet (fail)
    go_wp2
    go_ret
    exact ⟨rfl, rq_spoil HR.out, ((Chg.refl _ _).drewN _).setCell (.inl (by simp)) _⟩
set_option maxHeartbeats 4000000 in
theorem rnum_ok (b : Nat) (v : Value) (zs : List Int) (a : Nat) (n : Nat) (hn : n ≤ 4) (w : World) (h : RQ w b v zs ⟨a, false⟩) (hb : a + n ≤ zs.length) :
    Calls Try.prog 25 #[.pointer (some ⟨b, 0, none⟩), .int .i64 n] w fun e w' => e = .returned (.int .i64 (numL ((zs.drop a).take n))) ∧ RQ w' b v zs ⟨a + n, false⟩ ∧ Chg [b] w w' := by
  obtain ⟨va, vc, rfl, -⟩ := reads_slice h.reads.1
  have c0 : w.cell? ⟨b, 0, none⟩ = some (.slice va zs.length vc) := h.box.cell rfl
  have c1 : w.cell? ⟨b, 1, none⟩ = some (.int .i64 (a : Int)) := h.box.cell rfl
  have c2 : w.cell? ⟨b, 2, none⟩ = some (.bool false) := h.box.cell rfl
  have f1 := h.box.free 1
  have HL := Lib.hid h.len
  have hl : (zs.length : Int) ≤ 65536 := by have := h.len; omega
  have ha : (a : Int) ≤ 65536 := by have := h.len; omega
  have HR := Lib.hid h
  have HLT := Lib.hid hb
  have k1 : IntKind.i64.wrap ((zs.length : Int) - (a : Int)) = (zs.length : Int) - (a : Int) := by rw [IntKind.wrap_i64]; omega
  have hd : decide ((zs.length : Int) - (a : Int) < (n : Int)) = false := by simp; omega
  have hn4 : (n : Int) ≤ 4 := by omega
  have HN := Lib.hid hn
  obtain ⟨bb, off, hix, hcell, hown⟩ := reads_index (P := Try.prog) Try.underlying22 sz5 h.reads.1
  have HIX := Lib.hid hix
  have HCELL := Lib.hid hcell
  have hwf : ∀ x ∈ (zs.drop a).take n, (Lit.int .u8 x).wf = true := fun x hx => h.reads.2 x (List.mem_of_mem_drop (List.mem_of_mem_take hx))
  have hlen : ((zs.drop a).take n).length = n := by rw [List.length_take, List.length_drop]; omega
  have hget : ∀ i, i < n → ((zs.drop a).take n).getD i 0 = zs.getD (a + i) 0 := fun i hi => by
    rw [List.getD_eq_getElem?_getD, List.getElem?_take_of_lt hi, List.getElem?_drop, ← List.getD_eq_getElem?_getD]
  obtain ⟨ys, hys⟩ : ∃ ys, (zs.drop a).take n = ys := ⟨_, rfl⟩
  rw [hys] at hwf hlen hget ⊢
  have HY := Lib.hid (show (∀ x ∈ ys, (Lit.int .u8 x).wf = true) ∧ ys.length = n ∧ ∀ i, i < n → ys.getD i 0 = zs.getD (a + i) 0 from ⟨hwf, hlen, hget⟩)
  clear hb h hix hcell hown hwf hlen hget hys hn
  go_enter Try.func25, Try.ntmps25
  go_wp2
  go_quiet (fail)
  go_wp2
  rename_i nq
  clear k1 hd
  go_loopw [5, 6] (fun wv i wr => ∃ (k : Nat) (z : Int), k ≤ n ∧ -1 ≤ z ∧ z ≤ 3 ∧ Hid (z = (k : Int) - 1) ∧ i = .int .i64 z ∧ wv = .int .i64 (numL (ys.drop k)) ∧ Hid (Quiet w wr)) (fun _ i _ => ((intOf i) + 1).toNat)
  case atStart => exact ⟨n, _, Nat.le_refl _, by omega, by omega, Lib.hid rfl, rfl, by rw [List.drop_of_length_le (by have := HY.out.2.1; omega)]; simp [numL], Lib.hid ⟨_, rfl⟩⟩
  case round =>
    obtain ⟨k, z, hk, hz0, hz1, HZ, rfl, rfl, HQ⟩ := hrel
    obtain ⟨wo, rfl⟩ : ∃ wo : World, wo = wr := ⟨_, rfl⟩
    have c0 := (quiet_chg HQ.out).keep c0 (by simp)
    have c1 := (quiet_chg HQ.out).keep c1 (by simp)
    have f1 : wo.frozen? ⟨b, 1, none⟩ = false := by obtain ⟨q, rfl⟩ := HQ.out; exact f1
    by_cases h0 : 0 ≤ z
    · obtain ⟨m, rfl⟩ := Int.eq_ofNat_of_zero_le h0
      have hkm : k = m + 1 := by have := HZ.out; omega
      subst hkm
      obtain ⟨hw, hl2, hg⟩ := HY.out
      have g1 : ∀ u, (Instr.indexAt 22 (.slice va zs.length vc) (.int .i64 ((a : Int) + (m : Int)))).run Try.prog u = .ok (.pointer (some ⟨bb, off + (a + m) * 1, none⟩)) u := fun u => by
        have := HIX.out (a + m) (by have := HLT.out; omega) u
        rwa [Int.natCast_add] at this
      have hxx : zs.getD (a + m) 0 = ys.getD m 0 := (hg m (by omega)).symm
      have g2 : wo.cell? ⟨bb, off + (a + m), none⟩ = some (.int .u8 (ys.getD m 0)) := (quiet_chg HQ.out).keep (HCELL.out (a + m) _ (by rw [List.getElem?_map, List.getElem?_eq_getElem (by have := HLT.out; omega), ← hxx, List.getD_eq_getElem?_getD, List.getElem?_eq_getElem (by have := HLT.out; omega)]; rfl)) (by simp)
      rw [Nat.mul_one] at g1
      have hd : ys.drop m = ys.getD m 0 :: ys.drop (m + 1) := by
        rw [List.drop_eq_getElem_cons (by omega), List.getD_eq_getElem?_getD, List.getElem?_eq_getElem (by omega)]; rfl
      have hx := hw (ys.getD m 0) (by rw [List.getD_eq_getElem?_getD, List.getElem?_eq_getElem (by omega)]; exact List.getElem_mem _)
      have hbn := numL_bd (ys.drop (m + 1)) (fun x hx => hw x (List.mem_of_mem_drop hx))
      have hln : (ys.drop (m + 1)).length ≤ 3 := by simp; omega
      have hp := pow3 _ hln
      obtain ⟨x, hX⟩ : ∃ x, ys.getD m 0 = x := ⟨_, rfl⟩
      obtain ⟨N, hNn⟩ : ∃ N, numL (ys.drop (m + 1)) = N := ⟨_, rfl⟩
      rw [hX] at hx g2 hd
      rw [hNn] at hbn ⊢
      have hb1 := hbn.1
      have hb2 : N < 16777216 := by omega
      obtain ⟨hx1, hx2⟩ := wf_u8' hx
      have HD : Hid (numL (ys.drop m) = 256 * N + x) := Lib.hid (by rw [hd, numL, hNn]; omega)
      have HKM := Lib.hid hk
      have k1 : IntKind.i64.wrap (256 * N) = 256 * N := by rw [IntKind.wrap_i64]; omega
      have k2 : IntKind.i64.wrap (256 * N + x) = 256 * N + x := by rw [IntKind.wrap_i64]; omega
      have k3 : IntKind.i64.wrap ((a : Int) + (m : Int)) = (a : Int) + (m : Int) := by rw [IntKind.wrap_i64]; omega
      have k4 : 0 ≤ (a : Int) + (m : Int) := by omega
      clear hw hl2 hg hd hx hbn hln hp hX hNn hxx hk
      go_wp2
      go_quiet (fail)
      clear k1 k2 k3 k4
      go_wp2
      go_roundw
      case rel => exact ⟨m, (m : Int) - 1, by have := HKM.out; omega, by omega, by omega, Lib.hid rfl, by go_num, by rw [HD.out], Lib.hid (HQ.out.drewN _)⟩
      case measure => simp [intOf]
    · obtain rfl : k = 0 := by have := HZ.out; omega
      go_wp2
      go_ret
      refine ⟨rfl, rq_move HR.out (quiet_chg HQ.out) HLT.out, ((quiet_chg HQ.out).mono (by simp)).setCell (.inl (by simp)) _⟩
theorem rnum_st (b : Nat) (v : Value) (zs : List Int) (s : St) (n : Nat) (hn : n ≤ 4) (w : World) (h : RQ w b v zs s) :
    Calls Try.prog 25 #[.pointer (some ⟨b, 0, none⟩), .int .i64 n] w fun e w' => ∃ x s', e = .returned (.int .i64 x) ∧ Hid ((x = rdV zs n s ∧ s' = rdS zs n s) ∧ 0 ≤ x ∧ x < 256 ^ n) ∧ RQ w' b v zs s' ∧ Chg [b] w w' := by
  have hb := rd_bd h.reads.2 n s
  by_cases hc : s.bad = true ∨ zs.length < s.at_ + n
  · refine (rnum_bad b v zs s n hn w h hc).mono ?_
    rintro e w' ⟨rfl, h1, h2⟩
    have h3 : rdS zs n s = ⟨s.at_, true⟩ := by
      unfold rdS
      rcases hc with hc | hc
      · rw [if_pos hc, ← hc]
      · by_cases hs : s.bad = true
        · rw [if_pos hs, ← hs]
        · rw [if_neg hs, if_pos hc]
    refine ⟨0, _, rfl, Lib.hid ⟨⟨by unfold rdV; rw [if_pos hc], h3.symm⟩, by decide, Int.pow_pos (by decide)⟩, h1, h2⟩
  · obtain ⟨a, bad⟩ := s
    dsimp only at hc
    have hbb : bad = false := by cases bad; rfl; exact absurd (.inl rfl) hc
    subst hbb
    have hl : a + n ≤ zs.length := by
      rcases Nat.lt_or_ge zs.length (a + n) with h1 | h1
      · exact absurd (.inr h1) hc
      · exact h1
    refine (rnum_ok b v zs a n hn w h hl).mono ?_
    rintro e w' ⟨rfl, h1, h2⟩
    refine ⟨_, _, rfl, Lib.hid ⟨⟨?_, ?_⟩, ?_⟩, h1, h2⟩
    · unfold rdV; rw [if_neg hc]
    · unfold rdS; rw [if_neg (by simp), if_neg (by show ¬ zs.length < a + n; omega)]
    · unfold rdV at hb; rw [if_neg hc] at hb; exact hb
theorem rnum1 (b : Nat) (v : Value) (zs : List Int) (s : St) (w : World) (h : RQ w b v zs s) :
    Calls Try.prog 25 #[.pointer (some ⟨b, 0, none⟩), .int .i64 1] w fun e w' => ∃ x s', e = .returned (.int .i64 x) ∧ Hid ((x = rdV zs 1 s ∧ s' = rdS zs 1 s) ∧ 0 ≤ x ∧ x ≤ 255) ∧ RQ w' b v zs s' ∧ Chg [b] w w' :=
  (rnum_st b v zs s 1 (by decide) w h).mono fun e w' ⟨x, s', h1, h2, h3⟩ => ⟨x, s', h1, Lib.hid ⟨h2.out.1, h2.out.2.1, by have := h2.out.2.2; omega⟩, h3⟩
theorem rnum2 (b : Nat) (v : Value) (zs : List Int) (s : St) (w : World) (h : RQ w b v zs s) :
    Calls Try.prog 25 #[.pointer (some ⟨b, 0, none⟩), .int .i64 2] w fun e w' => ∃ x s', e = .returned (.int .i64 x) ∧ Hid ((x = rdV zs 2 s ∧ s' = rdS zs 2 s) ∧ 0 ≤ x ∧ x ≤ 65535) ∧ RQ w' b v zs s' ∧ Chg [b] w w' :=
  (rnum_st b v zs s 2 (by decide) w h).mono fun e w' ⟨x, s', h1, h2, h3⟩ => ⟨x, s', h1, Lib.hid ⟨h2.out.1, h2.out.2.1, by have := h2.out.2.2; omega⟩, h3⟩
theorem rnum3 (b : Nat) (v : Value) (zs : List Int) (s : St) (w : World) (h : RQ w b v zs s) :
    Calls Try.prog 25 #[.pointer (some ⟨b, 0, none⟩), .int .i64 3] w fun e w' => ∃ x s', e = .returned (.int .i64 x) ∧ Hid ((x = rdV zs 3 s ∧ s' = rdS zs 3 s) ∧ 0 ≤ x ∧ x ≤ 16777215) ∧ RQ w' b v zs s' ∧ Chg [b] w w' :=
  (rnum_st b v zs s 3 (by decide) w h).mono fun e w' ⟨x, s', h1, h2, h3⟩ => ⟨x, s', h1, Lib.hid ⟨h2.out.1, h2.out.2.1, by have := h2.out.2.2; omega⟩, h3⟩
theorem rnum4 (b : Nat) (v : Value) (zs : List Int) (s : St) (w : World) (h : RQ w b v zs s) :
    Calls Try.prog 25 #[.pointer (some ⟨b, 0, none⟩), .int .i64 4] w fun e w' => ∃ x s', e = .returned (.int .i64 x) ∧ Hid ((x = rdV zs 4 s ∧ s' = rdS zs 4 s) ∧ 0 ≤ x ∧ x ≤ 4294967295) ∧ RQ w' b v zs s' ∧ Chg [b] w w' :=
  (rnum_st b v zs s 4 (by decide) w h).mono fun e w' ⟨x, s', h1, h2, h3⟩ => ⟨x, s', h1, Lib.hid ⟨h2.out.1, h2.out.2.1, by have := h2.out.2.2; omega⟩, h3⟩
end Go.Proofs.Ytkmalnojkjmjiaa.img
