/- The reference's reader of bytes: the walks. -/
import Derived.Test.YtkhbmgkofhdkmaaCodecW5
namespace Go.Proofs.Ytkhbmgkofhdkmaa.codec
open Go Go.RowKit Go.Proofs.Ytkhbmgkofhdkmaa.kit
set_option linter.unusedVariables false

/-- the reference's reader: its box b, what is left, whether it is bad -/
structure RRef (w : World) (b : Nat) (sv : Value) (ys : List Int) (bad : Bool) : Prop where
  box : Blk w b #[sv, .bool bad] 45
  rest : ReadsB w sv ys
  far : ∀ k, sv.ownBlock = some k → k ≠ b

theorem RRef.keep {w w' : World} {b : Nat} {sv : Value} {ys : List Int} {bad : Bool} {L : List Nat} (h : RRef w b sv ys bad) (k : Chg L w w') (hb : b ∉ L) (hg : ∀ k, sv.ownBlock = some k → k ∉ L) : RRef w' b sv ys bad :=
  ⟨h.box.keep k hb, ⟨h.rest.1.chg k hg, h.rest.2⟩, h.far⟩
theorem sz5 : (Try.prog.info? 5).map (·.size) = some 1 := by kernel_rfl

theorem pow3 (l : Nat) (h : l ≤ 3) : (256 : Int) ^ l ≤ 16777216 := by
  match l, h with
  | 0, _ => decide
  | 1, _ => decide
  | 2, _ => decide
  | 3, _ => decide
theorem wf_u8' {x : Int} (h : (Lit.int .u8 x).wf = true) : 0 ≤ x ∧ x ≤ 255 := by
  simpa [Lit.wf, IntKind.min, IntKind.max, IntKind.signed, IntKind.bits] using h

theorem Take_ok (b : Nat) (sv : Value) (ys : List Int) (n : Nat) (w : World) (h : RRef w b sv ys false) (hn : n ≤ ys.length) (hs : ys.length ≤ 1000000) :
    Calls Try.prog 36 #[.pointer (some ⟨b, 0, none⟩), .int .i64 n] w fun e w' => ∃ v sv', e = .returned v ∧ ReadsB w' v (ys.take n) ∧ RRef w' b sv' (ys.drop n) false ∧ sv'.ownBlock = sv.ownBlock ∧ v.ownBlock = sv.ownBlock ∧ Chg [b] w w' := by
  obtain ⟨a, c, rfl, hc⟩ := reads_slice h.rest.1
  obtain ⟨v1, e1, r1, o1⟩ := slice_high (P := Try.prog) Try.underlying22 sz5 h.rest.1 n hn
  obtain ⟨v2, e2, r2, o2⟩ := slice_low (P := Try.prog) Try.underlying22 sz5 h.rest.1 n hn
  obtain ⟨a2, cc2, rfl, hc2⟩ := reads_slice r2
  have c0 : w.cell? ⟨b, 0, none⟩ = some (.slice a ys.length c) := h.box.cell rfl
  have c1 : w.cell? ⟨b, 1, none⟩ = some (.bool false) := h.box.cell rfl
  have f0 := h.box.free 0
  go_enter Try.func36, Try.ntmps36
  go_wp2
  go_ret
  have hne : ∀ k, (Value.slice a ys.length c).ownBlock = some k → k ≠ b := h.far
  have hk : Chg [b] w (w.setCell ⟨b, 0, none⟩ (.slice a2 (ys.length - n) cc2)) := (Chg.refl _ _).setCell (.inl (by simp)) _
  rw [Nat.mul_one] at r1 r2
  have l1 : (ys.take n).length = n := by simp; omega
  have l2 : (ys.drop n).length = ys.length - n := by simp
  refine ⟨_, .slice a2 (ys.length - n) cc2, rfl, ⟨?_, fun x hx => h.rest.2 x (List.mem_of_mem_take hx)⟩, ⟨h.box.set 0 _, ⟨?_, fun x hx => h.rest.2 x (List.mem_of_mem_drop hx)⟩, fun k hk' => hne k (by rw [← o2]; exact hk')⟩, o2, o1, hk⟩
  · rw [l1, List.map_take]
    exact r1.chg hk fun k hk' => by simp; exact hne k (by rw [← o1]; exact hk')
  · rw [l2, List.map_drop]
    exact r2.chg hk fun k hk' => by simp; exact hne k (by rw [← o2]; exact hk')

theorem Take_none (b : Nat) (sv : Value) (ys : List Int) (bad : Bool) (n : Int) (w : World) (h : RRef w b sv ys bad) (hn : bad = true ∨ n < 0 ∨ (ys.length : Int) < n) :
    Calls Try.prog 36 #[.pointer (some ⟨b, 0, none⟩), .int .i64 n] w fun e w' => e = .returned (.slice none 0 0) ∧ RRef w' b (.slice none 0 0) [] true ∧ Chg [b] w w' := by
  obtain ⟨a, c, rfl, hc⟩ := reads_slice h.rest.1
  have c0 : w.cell? ⟨b, 0, none⟩ = some (.slice a ys.length c) := h.box.cell rfl
  have c1 : w.cell? ⟨b, 1, none⟩ = some (.bool bad) := h.box.cell rfl
  have f0 := h.box.free 0
  have f1 := h.box.free 1
  have hend : ∀ W, W = (w.setCell ⟨b, 1, none⟩ (.bool true)).setCell ⟨b, 0, none⟩ (.slice none 0 0) → RRef W b (.slice none 0 0) [] true ∧ Chg [b] w W := by
    rintro W rfl
    exact ⟨⟨(h.box.set 1 _).set 0 _, ReadsB.nil _, fun k hk => by simp [Value.ownBlock] at hk⟩, ((Chg.refl _ _).setCell (.inl (by simp)) _).setCell (.inl (by simp)) _⟩
  cases bad
  · by_cases h0 : n < 0
    · clear hn
      go_enter Try.func36, Try.ntmps36
      go_wp2
      go_ret
      exact ⟨rfl, hend _ rfl⟩
    · have h1 : (ys.length : Int) < n := by rcases hn with hn | hn | hn; cases hn; omega; exact hn
      clear hn
      go_enter Try.func36, Try.ntmps36
      go_wp2
      go_ret
      exact ⟨rfl, hend _ rfl⟩
  · clear hn
    go_enter Try.func36, Try.ntmps36
    go_wp2
    go_ret
    exact ⟨rfl, hend _ rfl⟩

theorem rDone_any (b : Nat) (sv : Value) (ys : List Int) (bad : Bool) (w : World) (h : RRef w b sv ys bad) :
    Calls Try.prog 38 #[.pointer (some ⟨b, 0, none⟩)] w fun e w' => e = .returned (.int .i64 (if bad then 2 else if 0 < ys.length then 3 else 0)) ∧ w = w' := by
  obtain ⟨a, c, rfl, hc⟩ := reads_slice h.rest.1
  have c0 : w.cell? ⟨b, 0, none⟩ = some (.slice a ys.length c) := h.box.cell rfl
  have c1 : w.cell? ⟨b, 1, none⟩ = some (.bool bad) := h.box.cell rfl
  clear h
  cases bad
  · by_cases h0 : 0 < ys.length
    · have h1 : (0 : Int) < ys.length := by omega
      go_enter Try.func38, Try.ntmps38
      go_wp2
      go_ret
      exact ⟨ret_int (by simp), rfl⟩
    · have h1 : (ys.length : Int) ≤ 0 := by omega
      go_enter Try.func38, Try.ntmps38
      go_wp2
      go_ret
      exact ⟨ret_int (by simp), rfl⟩
  · go_enter Try.func38, Try.ntmps38
    go_wp2
    go_ret
    exact ⟨rfl, rfl⟩

/-- The reference's number: the bytes from the last one to the first. -/
theorem Num_ok (b : Nat) (sv : Value) (ys : List Int) (n : Nat) (w : World) (h : RRef w b sv ys false) (hn : n ≤ ys.length) (hs : ys.length ≤ 1000000) (hn4 : n ≤ 4) :
    Calls Try.prog 35 #[.pointer (some ⟨b, 0, none⟩), .int .i64 n] w fun e w' => ∃ sv', e = .returned (.int .u32 (numL (ys.take n))) ∧ RRef w' b sv' (ys.drop n) false ∧ sv'.ownBlock = sv.ownBlock ∧ Chg [b] w w' := by
  have HT := Lib.hid (Take_ok b sv ys n w h hn hs)
  have hw : ∀ x ∈ ys.take n, (Lit.int .u8 x).wf = true := fun x hx => h.rest.2 x (List.mem_of_mem_take hx)
  have hl : (ys.take n).length = n := by simp; omega
  clear h
  generalize ys.take n = zs at *
  have hl' : zs.length ≤ 4 := by omega
  subst hl
  go_enter Try.func35, Try.ntmps35
  go_wp2_with (go_at_call 36; refine HT.out.mono ?_; rintro e w1 ⟨v, sv', rfl, hv, hR, ho, ho2, hc⟩; obtain ⟨a1, cc1, rfl, hcc⟩ := reads_slice hv.1)
  obtain ⟨bb, off, hix, hcell, _⟩ := reads_index (P := Try.prog) Try.underlying22 sz5 hv.1
  go_loopw [6, 7] (fun wv i wr => ∃ (k : Nat) (z : Int), k ≤ zs.length ∧ -1 ≤ z ∧ z ≤ 3 ∧ Hid (z = (k : Int) - 1) ∧ i = .int .i64 z ∧ wv = .int .u32 (numL (zs.drop k)) ∧ wr = w1) (fun _ i _ => ((intOf i) + 1).toNat)
  case atStart => exact ⟨zs.length, _, Nat.le_refl _, by omega, by omega, Lib.hid rfl, rfl, by simp [numL], rfl⟩
  case round =>
    obtain ⟨k, z, hk, hz0, hz1, HZ, rfl, rfl, rfl⟩ := hrel
    by_cases h0 : 0 ≤ z
    · obtain ⟨m, rfl⟩ := Int.eq_ofNat_of_zero_le h0
      have hkm : k = m + 1 := by have := HZ.out; omega
      subst hkm
      have g1 := hix m (by omega)
      have g2 := hcell m (.int .u8 (zs.getD m 0)) (by rw [List.getElem?_map, List.getElem?_eq_getElem (by omega), List.getD_eq_getElem?_getD, List.getElem?_eq_getElem (by omega)]; rfl)
      have hd : zs.drop m = zs.getD m 0 :: zs.drop (m + 1) := by
        rw [List.drop_eq_getElem_cons (by omega), List.getD_eq_getElem?_getD, List.getElem?_eq_getElem (by omega)]; rfl
      have hx := hw (zs.getD m 0) (by rw [List.getD_eq_getElem?_getD, List.getElem?_eq_getElem (by omega)]; exact List.getElem_mem _)
      have hw' : ∀ x ∈ zs.drop (m + 1), (Lit.int .u8 x).wf = true := fun x hx => hw x (List.mem_of_mem_drop hx)
      have hb := numL_bd _ hw'
      have hlen : (zs.drop (m + 1)).length ≤ 3 := by simp; omega
      have hp := pow3 _ hlen
      have hb1 := hb.1
      have hb2 : numL (zs.drop (m + 1)) < 16777216 := by omega
      generalize hX : zs.getD m 0 = x at *
      have hx0 := wf_u8' hx
      obtain ⟨hx1, hx2⟩ := hx0
      have HD := Lib.hid hd
      have HW := Lib.hid hw
      clear hd hX hb hp hlen hw' hx hw hix hcell
      generalize hNn : numL (zs.drop (m + 1)) = N at *
      have HN := Lib.hid hNn
      clear hNn
      go_wp2
      go_roundw
      case rel =>
        refine ⟨m, (m : Int) - 1, by omega, by omega, by omega, Lib.hid rfl, by go_num, ?_, trivial⟩
        rw [HD.out, numL, HN.out, Int.mul_comm, Int.add_comm]
      case measure => simp [intOf] <;> omega
    · have hkz : k = 0 := by have := HZ.out; omega
      subst hkz
      go_wp2
      go_ret
      exact ⟨rfl, sv', hR, ho, hc⟩

theorem Num_none (b : Nat) (sv : Value) (ys : List Int) (bad : Bool) (n : Int) (w : World) (h : RRef w b sv ys bad) (hn : bad = true ∨ n < 0 ∨ (ys.length : Int) < n) :
    Calls Try.prog 35 #[.pointer (some ⟨b, 0, none⟩), .int .i64 n] w fun e w' => e = .returned (.int .u32 0) ∧ RRef w' b (.slice none 0 0) [] true ∧ Chg [b] w w' := by
  have HT := Lib.hid (Take_none b sv ys bad n w h hn)
  clear h hn
  go_enter Try.func35, Try.ntmps35
  go_wp2_with (go_at_call 36; refine HT.out.mono ?_; rintro e w1 ⟨rfl, hR, hc⟩)
  go_loopw [6, 7] (fun wv i wr => i = .int .i64 (-1) ∧ wv = .int .u32 0 ∧ wr = w1) (fun _ i _ => 0)
  case atStart => exact ⟨rfl, rfl, rfl⟩
  case round =>
    obtain ⟨rfl, rfl, rfl⟩ := hrel
    go_wp2
    go_ret
    exact ⟨rfl, hR, hc⟩
end Go.Proofs.Ytkhbmgkofhdkmaa.codec
