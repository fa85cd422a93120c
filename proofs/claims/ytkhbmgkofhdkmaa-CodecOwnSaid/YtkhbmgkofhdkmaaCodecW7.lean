/- Both readers side by side, step by step. -/
import Derived.Test.YtkhbmgkofhdkmaaCodecW6
namespace Go.Proofs.Ytkhbmgkofhdkmaa.codec
open Go Go.RowKit Go.Proofs.Ytkhbmgkofhdkmaa.kit
set_option linter.unusedVariables false

def restL (zs : List Int) (a : Nat) (bad : Bool) : List Int := if bad then [] else zs.drop a
def doneI (bad : Bool) (n : Nat) : Int := if bad then 2 else if 0 < n then 3 else 0
def errI (bad : Bool) : Int := if bad then 2 else 0
theorem errI_ne (bad : Bool) : ((errI bad == 0) == bad) = false := by cases bad <;> rfl

theorem Left_r (b g : Nat) (zs : List Int) (a : Nat) (bad : Bool) (w : World) (h : RIn w b g zs a bad) :
    Calls Try.prog 37 #[.pointer (some ⟨b, 0, none⟩)] w fun e w' => e = .returned (.int .i64 ((restL zs a bad).length : Int)) ∧ Quiet w w' := by
  refine (Left_any b g zs a bad w h).mono ?_
  rintro e w' ⟨rfl, hq⟩
  have hl := h.at_le
  refine ⟨ret_int ?_, hq⟩
  cases bad <;> simp [restL]
  omega
theorem Done_r (b g : Nat) (zs : List Int) (a : Nat) (bad : Bool) (w : World) (h : RIn w b g zs a bad) :
    Calls Try.prog 21 #[.pointer (some ⟨b, 0, none⟩)] w fun e w' => e = .returned (.int .i64 (doneI bad (restL zs a bad).length)) ∧ Quiet w w' := by
  refine (Done_any b g zs a bad w h).mono ?_
  rintro e w' ⟨rfl, hq⟩
  have hl := h.at_le
  refine ⟨ret_int ?_, hq⟩
  cases bad <;> simp [restL, doneI]
  split <;> split <;> omega

theorem RRef.drewN {w : World} {b : Nat} {sv : Value} {ys : List Int} {bad : Bool} (h : RRef w b sv ys bad) (n : Nat) : RRef (w.drewN n) b sv ys bad := h.keep ((Chg.refl [] w).drewN n) (by simp) (by simp)
theorem rDone_r (b : Nat) (sv : Value) (ys : List Int) (bad : Bool) (w : World) (h : RRef w b sv ys bad) :
    Calls Try.prog 38 #[.pointer (some ⟨b, 0, none⟩)] w fun e w' => e = .returned (.int .i64 (doneI bad ys.length)) ∧ Quiet w w' := by
  refine (rDone_any b sv ys bad w h).mono ?_
  rintro e w' ⟨rfl, rfl⟩
  exact ⟨rfl, Quiet.refl _⟩
theorem Err_r (b g : Nat) (zs : List Int) (a : Nat) (bad : Bool) (w : World) (h : RIn w b g zs a bad) :
    Calls Try.prog 39 #[.pointer (some ⟨b, 0, none⟩)] w fun e w' => e = .returned (.int .i64 (errI bad)) ∧ Quiet w w' := by
  refine (Err_any b g zs a bad w h).mono ?_
  rintro e w' ⟨rfl, rfl⟩
  exact ⟨rfl, Quiet.refl _⟩

/-- both readers of one row -/
structure Both (w : World) (b g b2 : Nat) (sv : Value) (zs : List Int) (a : Nat) (bad : Bool) : Prop where
  r : RIn w b g zs a bad
  x : RRef w b2 sv (restL zs a bad) bad
  n1 : b ≠ b2
  n2 : g ≠ b2
  far : ∀ k, sv.ownBlock = some k → k ≠ b ∧ k ≠ g

theorem Both.chg {w w' : World} {b g b2 : Nat} {sv : Value} {zs : List Int} {a : Nat} {bad : Bool} (h : Both w b g b2 sv zs a bad) (k : Chg [] w w') : Both w' b g b2 sv zs a bad :=
  ⟨h.r.keep k (by simp) (by simp), h.x.keep k (by simp) (by simp), h.n1, h.n2, h.far⟩

theorem restL_len (zs : List Int) (a : Nat) (bad : Bool) : (restL zs a bad).length ≤ zs.length := by cases bad <;> simp [restL]

theorem step_num {w : World} {b g b2 : Nat} {sv : Value} {zs : List Int} {a : Nat} {bad : Bool} (h : Both w b g b2 sv zs a bad) (n : Nat) (hn4 : n ≤ 4) :
    ∃ x a' bad', 0 ≤ x ∧ x ≤ 4294967295 ∧
      Calls Try.prog 45 #[.pointer (some ⟨b, 0, none⟩), .int .i64 n] w (fun e w' => e = .returned (.int .u32 x) ∧ RIn w' b g zs a' bad' ∧ Chg [b] w w') ∧
      ∀ W, Chg [b] w W → RIn W b g zs a' bad' → Calls Try.prog 35 #[.pointer (some ⟨b2, 0, none⟩), .int .i64 n] W (fun e w' => ∃ sv', e = .returned (.int .u32 x) ∧ Both w' b g b2 sv' zs a' bad' ∧ Chg [b2] W w') := by
  have hs := h.r.short
  have hrl := restL_len zs a bad
  have hx : ∀ W, Chg [b] w W → RRef W b2 sv (restL zs a bad) bad := fun W hc => h.x.keep hc (by simp; exact Ne.symm h.n1) fun k hk => by simp; exact (h.far k hk).1
  have mk : ∀ (W w' : World) (a' : Nat) (bad' : Bool) (sv' : Value), RIn W b g zs a' bad' → Chg [b2] W w' → RRef w' b2 sv' (restL zs a' bad') bad' → (∀ k, sv'.ownBlock = some k → k ≠ b ∧ k ≠ g) → Both w' b g b2 sv' zs a' bad' :=
    fun W w' a' bad' sv' hR hc hX hf => ⟨hR.keep hc (by simp; exact h.n1) (by simp; exact h.n2), hX, h.n1, h.n2, hf⟩
  have hnil : ∀ k, (Value.slice none 0 0).ownBlock = some k → k ≠ b ∧ k ≠ g := fun k hk => by simp [Value.ownBlock] at hk
  cases bad with
  | true =>
    refine ⟨0, a, true, by decide, by decide, num_none _ _ _ _ ((next_bad _ _ _ _ _ _ h.r).mono ?_), fun W hc hR => (Num_none b2 sv _ true n W (hx W hc) (.inl rfl)).mono ?_⟩
    · rintro e w' ⟨rfl, rfl⟩; exact ⟨rfl, h.r, Chg.refl _ _⟩
    · rintro e w' ⟨rfl, hR', hc'⟩
      exact ⟨_, rfl, mk W w' a true _ hR hc' (by simpa [restL] using hR') hnil, hc'⟩
  | false =>
    by_cases hn : a + n ≤ zs.length
    · have hb := numL_bd _ (wf_piece h.r.wf a n)
      have hl : ((zs.drop a).take n).length = n := by simp; omega
      rw [hl] at hb
      have hp : (256 : Int) ^ n ≤ 4294967296 := by
        match n, hn4 with
        | 0, _ => decide
        | 1, _ => decide
        | 2, _ => decide
        | 3, _ => decide
        | 4, _ => decide
      refine ⟨numL ((zs.drop a).take n), a + n, false, hb.1, by omega, num_ok b g zs a n w h.r hn hn4, fun W hc hR => ?_⟩
      refine (Num_ok b2 sv _ n W (hx W hc) (by simp [restL]; omega) (by omega) hn4).mono ?_
      rintro e w' ⟨sv', rfl, hR', ho, hc'⟩
      refine ⟨sv', by simp [restL], mk W w' (a + n) false sv' hR hc' (by simpa [restL] using hR') (fun k hk => h.far k (by rw [← ho]; exact hk)), hc'⟩
    · refine ⟨0, a, true, by decide, by decide, num_none _ _ _ _ (next_short b g zs a n w h.r (.inr (by omega))), fun W hc hR => ?_⟩
      refine (Num_none b2 sv _ false n W (hx W hc) (.inr (.inr ?_))).mono ?_
      · have hl := h.r.at_le
        simp [restL]; omega
      · rintro e w' ⟨rfl, hR', hc'⟩
        exact ⟨_, rfl, mk W w' a true _ hR hc' (by simpa [restL] using hR') hnil, hc'⟩

theorem step_bytes {w : World} {b g b2 : Nat} {sv : Value} {zs : List Int} {a : Nat} {bad : Bool} (h : Both w b g b2 sv zs a bad) (n : Int) :
    ∃ ys a' bad', ys.length ≤ 1000000 ∧
      Calls Try.prog 20 #[.pointer (some ⟨b, 0, none⟩), .int .i64 n] w (fun e w' => ∃ v, e = .returned v ∧ ReadsB w' v ys ∧ (∀ k, v.ownBlock = some k → w.heap.size ≤ k) ∧ RIn w' b g zs a' bad' ∧ Chg [b] w w') ∧
      ∀ W, Chg [b] w W → RIn W b g zs a' bad' → Calls Try.prog 36 #[.pointer (some ⟨b2, 0, none⟩), .int .i64 n] W (fun e w' => ∃ v sv', e = .returned v ∧ ReadsB w' v ys ∧ Both w' b g b2 sv' zs a' bad' ∧ Chg [b2] W w') := by
  have hs := h.r.short
  have hrl := restL_len zs a bad
  have hx : ∀ W, Chg [b] w W → RRef W b2 sv (restL zs a bad) bad := fun W hc => h.x.keep hc (by simp; exact Ne.symm h.n1) fun k hk => by simp; exact (h.far k hk).1
  have mk : ∀ (W w' : World) (a' : Nat) (bad' : Bool) (sv' : Value), RIn W b g zs a' bad' → Chg [b2] W w' → RRef w' b2 sv' (restL zs a' bad') bad' → (∀ k, sv'.ownBlock = some k → k ≠ b ∧ k ≠ g) → Both w' b g b2 sv' zs a' bad' :=
    fun W w' a' bad' sv' hR hc hX hf => ⟨hR.keep hc (by simp; exact h.n1) (by simp; exact h.n2), hX, h.n1, h.n2, hf⟩
  have hnil : ∀ k, (Value.slice none 0 0).ownBlock = some k → k ≠ b ∧ k ≠ g := fun k hk => by simp [Value.ownBlock] at hk
  have fin : ∀ (ys : List Int) (a' : Nat) (bad' : Bool), ys.length ≤ 1000000 → (∀ x ∈ ys, (Lit.int .u8 x).wf = true) → Calls Try.prog 46 #[.pointer (some ⟨b, 0, none⟩), .int .i64 n] w (fun e w' => ∃ v, e = .returned v ∧ ReadsB w' v ys ∧ RIn w' b g zs a' bad' ∧ Chg [b] w w') →
      Calls Try.prog 20 #[.pointer (some ⟨b, 0, none⟩), .int .i64 n] w (fun e w' => ∃ v, e = .returned v ∧ ReadsB w' v ys ∧ (∀ k, v.ownBlock = some k → w.heap.size ≤ k) ∧ RIn w' b g zs a' bad' ∧ Chg [b] w w') := by
    intro ys a' bad' hy hyw H
    refine (Bytes_of _ n ys w (fun w' => RIn w' b g zs a' bad' ∧ Chg [b] w w') hy H).mono ?_
    rintro e w' ⟨v, w1, rfl, ⟨hR, hc⟩, ho, hc1⟩
    exact ⟨v, rfl, ho.reads hyw, fun k hk => Nat.le_trans hc.size (World.ownsRow.lt ho k hk).1, hR.keep hc1 (by simp) (by simp), hc.fresh hc1⟩
  cases bad with
  | true =>
    refine ⟨[], a, true, by simp, fin [] a true (by simp) (by simp) ((next_bad _ _ _ _ _ _ h.r).mono ?_), fun W hc hR => (Take_none b2 sv _ true n W (hx W hc) (.inl rfl)).mono ?_⟩
    · rintro e w' ⟨rfl, rfl⟩; exact ⟨_, rfl, ReadsB.nil _, h.r, Chg.refl _ _⟩
    · rintro e w' ⟨rfl, hR', hc'⟩
      exact ⟨_, _, rfl, ReadsB.nil _, mk W w' a true _ hR hc' (by simpa [restL] using hR') hnil, hc'⟩
  | false =>
    by_cases hn0 : n < 0
    · refine ⟨[], a, true, by simp, fin [] a true (by simp) (by simp) ((next_short b g zs a n w h.r (.inl hn0)).mono ?_), fun W hc hR => ?_⟩
      · rintro e w' ⟨rfl, hR', hc'⟩; exact ⟨_, rfl, ReadsB.nil _, hR', hc'⟩
      · refine (Take_none b2 sv _ false n W (hx W hc) (.inr (.inl hn0))).mono ?_
        rintro e w' ⟨rfl, hR', hc'⟩
        exact ⟨_, _, rfl, ReadsB.nil _, mk W w' a true _ hR hc' (by simpa [restL] using hR') hnil, hc'⟩
    · obtain ⟨m, rfl⟩ := Int.eq_ofNat_of_zero_le (Int.not_lt.1 hn0)
      by_cases hn : a + m ≤ zs.length
      · refine ⟨(zs.drop a).take m, a + m, false, by simp; omega, fin _ _ _ (by simp; omega) (wf_piece h.r.wf a m) ((next_ok b g zs a m w h.r hn).mono ?_), fun W hc hR => ?_⟩
        · rintro e w' ⟨o, c, rfl, ho, hnc, hcl, hR', hc'⟩
          exact ⟨_, rfl, hR'.piece o a m c hn ho hnc hcl, hR', hc'⟩
        · refine (Take_ok b2 sv _ m W (hx W hc) (by simp [restL]; omega) (by omega)).mono ?_
          rintro e w' ⟨v, sv', rfl, hv, hR', ho, _, hc'⟩
          exact ⟨v, sv', rfl, by simpa [restL] using hv, mk W w' (a + m) false sv' hR hc' (by simpa [restL] using hR') (fun k hk => h.far k (by rw [← ho]; exact hk)), hc'⟩
      · refine ⟨[], a, true, by simp, fin [] a true (by simp) (by simp) ((next_short b g zs a m w h.r (.inr (by omega))).mono ?_), fun W hc hR => ?_⟩
        · rintro e w' ⟨rfl, hR', hc'⟩; exact ⟨_, rfl, ReadsB.nil _, hR', hc'⟩
        · refine (Take_none b2 sv _ false m W (hx W hc) (.inr (.inr ?_))).mono ?_
          · have hl := h.r.at_le
            simp [restL]; omega
          · rintro e w' ⟨rfl, hR', hc'⟩
            exact ⟨_, _, rfl, ReadsB.nil _, mk W w' a true _ hR hc' (by simpa [restL] using hR') hnil, hc'⟩
end Go.Proofs.Ytkhbmgkofhdkmaa.codec
