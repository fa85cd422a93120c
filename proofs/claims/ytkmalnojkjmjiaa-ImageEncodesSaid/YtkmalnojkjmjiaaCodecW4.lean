/- Package codec: a reader's methods, walked. -/
import Derived.Test.YtkmalnojkjmjiaaCodecW3
namespace Go.Proofs.Ytkmalnojkjmjiaa.codec
open Go Go.RowKit Go.Proofs.Ytkmalnojkjmjiaa.kit
set_option linter.unusedVariables false
set_option linter.unusedSimpArgs false

/-- bytes as a number, the least first -/
def numL : List Int → Int
  | [] => 0
  | x :: r => x + 256 * numL r
theorem numL_snoc (l : List Int) (x : Int) : numL (l ++ [x]) = numL l + x * 256 ^ l.length := by
  induction l with
  | nil => simp [numL]
  | cons y r ih => simp only [List.cons_append, numL, ih, List.length_cons, Int.pow_succ, Int.mul_add]; rw [Int.add_assoc, ← Int.mul_assoc, Int.mul_comm 256 x, Int.mul_assoc, Int.mul_comm 256, Int.mul_comm 256 (256 ^ _)]
theorem numL_bd (l : List Int) (h : ∀ x ∈ l, (Lit.int .u8 x).wf = true) : 0 ≤ numL l ∧ numL l < 256 ^ l.length := by
  induction l with
  | nil => simp [numL]
  | cons y r ih =>
    have h1 := ih fun x hx => h x (by simp [hx])
    have h2 := h y (by simp)
    simp [Lit.wf, IntKind.min, IntKind.max, IntKind.signed, IntKind.bits] at h2
    simp only [numL, List.length_cons, Int.pow_succ]
    omega

theorem or_lay (A x : Int) (k : Nat) (hk : k < 4) (hA0 : 0 ≤ A) (hA : A < 256 ^ k) (hx0 : 0 ≤ x) (hx : x < 256) :
    bits .or .u32 A (x % 4294967296 * 2 ^ (8 * k) % 4294967296) = A + x * 256 ^ k := by
  have key : ∀ (i : Nat) (p : Int), p = ((2 ^ i : Nat) : Int) → A < p → A < 4294967296 → x * p < 4294967296 → bits .or .u32 A (x * p) = A + x * p := by
    intro i p hp hAp hA2 hxp
    obtain ⟨a, rfl⟩ := Int.eq_ofNat_of_zero_le hA0
    obtain ⟨y, rfl⟩ := Int.eq_ofNat_of_zero_le hx0
    subst hp
    have h1 : a < 2 ^ i := by omega
    have h2 : y * 2 ^ i < 4294967296 := by
      have : ((y * 2 ^ i : Nat) : Int) < 4294967296 := by rw [Int.natCast_mul]; exact hxp
      omega
    rw [show (y : Int) * ((2 ^ i : Nat) : Int) = ((y * 2 ^ i : Nat) : Int) from (Int.natCast_mul _ _).symm]
    rw [u32_or_nat a _ (by omega) h2]
    rw [Nat.or_comm, Nat.mul_comm y, ← Nat.two_pow_add_eq_or_of_lt h1 y]
    omega
  match k, hk with
  | 0, _ =>
    have e : x % 4294967296 * 2 ^ (8 * 0) % 4294967296 = x * 1 := by rw [show (2 : Int) ^ (8 * 0) = 1 from by decide]; omega
    have f : (256 : Int) ^ 0 = 1 := by decide
    rw [f] at hA ⊢
    rw [e]; exact key 0 1 (by decide) (by omega) (by omega) (by omega)
  | 1, _ =>
    have e : x % 4294967296 * 2 ^ (8 * 1) % 4294967296 = x * 256 := by rw [show (2 : Int) ^ (8 * 1) = 256 from by decide]; omega
    have f : (256 : Int) ^ 1 = 256 := by decide
    rw [f] at hA ⊢
    rw [e]; exact key 8 256 (by decide) (by omega) (by omega) (by omega)
  | 2, _ =>
    have e : x % 4294967296 * 2 ^ (8 * 2) % 4294967296 = x * 65536 := by rw [show (2 : Int) ^ (8 * 2) = 65536 from by decide]; omega
    have f : (256 : Int) ^ 2 = 65536 := by decide
    rw [f] at hA ⊢
    rw [e]; exact key 16 65536 (by decide) (by omega) (by omega) (by omega)
  | 3, _ =>
    have e : x % 4294967296 * 2 ^ (8 * 3) % 4294967296 = x * 16777216 := by rw [show (2 : Int) ^ (8 * 3) = 16777216 from by decide]; omega
    have f : (256 : Int) ^ 3 = 16777216 := by decide
    rw [f] at hA ⊢
    rw [e]; exact key 24 16777216 (by decide) (by omega) (by omega) (by omega)

theorem num_ok (b g : Nat) (zs : List Int) (a n : Nat) (w : World) (h : RIn w b g zs a false) (hn : a + n ≤ zs.length) (hn4 : n ≤ 4) :
    Calls Try.prog 38 #[.pointer (some ⟨b, 0, none⟩), .int .i64 n] w fun e w' => e = .returned (.int .u32 (numL ((zs.drop a).take n))) ∧ RIn w' b g zs (a + n) false ∧ Chg [b] w w' := by
  have HN := Lib.hid (next_ok b g zs a n w h hn)
  go_enter Try.func38, Try.ntmps38
  go_wp2_with (go_at_call 52; refine HN.out.mono ?_; rintro e w1 ⟨o, c, rfl, ho, hnc, hcl, h1, hc⟩)
  go_loopw [5, 6, 7, 12] (fun wv _ _ i wr => ∃ k : Nat, k ≤ n ∧ i = .int .i64 k ∧ wv = .int .u32 (numL ((zs.drop a).take k)) ∧ wr = w1) (fun _ _ _ i _ => n - (intOf i).toNat)
  case atStart => exact ⟨0, Nat.zero_le _, rfl, rfl, rfl⟩
  case round =>
    obtain ⟨k, hk, rfl, rfl, rfl⟩ := hrel
    by_cases hlt : k < n
    · skip
      have hb := h1.byte (a + k) (by omega)
      obtain rfl : o = a := by omega
      have hs : (zs.drop o).take (k + 1) = (zs.drop o).take k ++ [zs.getD (o + k) 0] := by
        rw [List.take_succ_eq_append_getElem (by simp; omega)]
        simp only [List.getElem_drop, List.getD_eq_getElem?_getD]
        rw [List.getElem?_eq_getElem (by omega)]; rfl
      generalize hx : zs.getD (o + k) 0 = x at *
      have HX := Lib.hid hx
      have HS := Lib.hid hs
      clear hs hx
      go_wp2_with fail
      go_roundw
      case rel =>
        refine ⟨k + 1, by omega, by go_num, ?_, trivial⟩
        have hw1 := wf_piece h.wf o k
        have hx1 := h.wf x (by rw [← HX.out, List.getD_eq_getElem?_getD, List.getElem?_eq_getElem (by omega)]; exact List.getElem_mem _)
        simp [Lit.wf, IntKind.min, IntKind.max, IntKind.signed, IntKind.bits] at hx1
        have hlk : ((zs.drop o).take k).length = k := by simp; omega
        have hb := numL_bd _ hw1
        rw [hlk] at hb
        rw [HS.out, numL_snoc, hlk, or_lay _ x k (by omega) hb.1 hb.2 hx1.1 (by omega)]
      case measure => simp [intOf]; omega
    · go_wp2_with fail
      go_ret
      obtain rfl : k = n := by omega
      exact ⟨rfl, h1, hc⟩

/-- .. where there are no bytes to read -/
theorem num_none (p : Value) (n : Int) (w : World) (R : World → Prop) (H : Calls Try.prog 52 #[p, .int .i64 n] w fun e w' => e = .returned (.slice none 0 0) ∧ R w') :
    Calls Try.prog 38 #[p, .int .i64 n] w fun e w' => e = .returned (.int .u32 0) ∧ R w' := by
  have HN := Lib.hid H
  clear H
  go_enter Try.func38, Try.ntmps38
  go_wp2_with (go_at_call 52; refine HN.out.mono ?_; rintro e w1 ⟨rfl, hR⟩)
  go_loopw [5, 6, 7, 12] (fun wv _ _ i wr => i = .int .i64 0 ∧ wv = .int .u32 0 ∧ wr = w1) (fun _ _ _ i _ => 0)
  case atStart => exact ⟨rfl, rfl, rfl⟩
  case round =>
    obtain ⟨rfl, rfl, rfl⟩ := hrel
    go_wp2_with fail
    go_ret
    exact ⟨rfl, hR⟩

theorem U8_of (p : Value) (x : Int) (w : World) (R : World → Prop) (h0 : 0 ≤ x) (h1 : x ≤ 4294967295) (H : Calls Try.prog 38 #[p, .int .i64 1] w fun e w' => e = .returned (.int .u32 x) ∧ R w') :
    Calls Try.prog 19 #[p] w fun e w' => e = .returned (.int .i64 x) ∧ R w' := by
  have HN := Lib.hid H
  clear H
  go_enter Try.func19, Try.ntmps19
  go_wp2_with (go_at_call 38; refine HN.out.mono ?_; rintro e w1 ⟨rfl, hR⟩)
  go_ret
  exact ⟨rfl, hR⟩
theorem U16_of (p : Value) (x : Int) (w : World) (R : World → Prop) (h0 : 0 ≤ x) (h1 : x ≤ 4294967295) (H : Calls Try.prog 38 #[p, .int .i64 2] w fun e w' => e = .returned (.int .u32 x) ∧ R w') :
    Calls Try.prog 24 #[p] w fun e w' => e = .returned (.int .i64 x) ∧ R w' := by
  have HN := Lib.hid H
  clear H
  go_enter Try.func24, Try.ntmps24
  go_wp2_with (go_at_call 38; refine HN.out.mono ?_; rintro e w1 ⟨rfl, hR⟩)
  go_ret
  exact ⟨rfl, hR⟩
theorem U32_of (p : Value) (x : Int) (w : World) (R : World → Prop) (h0 : 0 ≤ x) (h1 : x ≤ 4294967295) (H : Calls Try.prog 38 #[p, .int .i64 4] w fun e w' => e = .returned (.int .u32 x) ∧ R w') :
    Calls Try.prog 40 #[p] w fun e w' => e = .returned (.int .u32 x) ∧ R w' := by
  have HN := Lib.hid H
  clear H
  go_enter Try.func40, Try.ntmps40
  go_wp2_with (go_at_call 38; refine HN.out.mono ?_; rintro e w1 ⟨rfl, hR⟩)
  go_ret
  exact ⟨rfl, hR⟩

theorem Left_any (b g : Nat) (zs : List Int) (a : Nat) (bad : Bool) (w : World) (h : RIn w b g zs a bad) :
    Calls Try.prog 23 #[.pointer (some ⟨b, 0, none⟩)] w fun e w' => e = .returned (.int .i64 (if bad then 0 else (zs.length : Int) - a)) ∧ Quiet w w' := by
  cases bad
  all_goals
    go_enter Try.func23, Try.ntmps23
    go_wp2_with (first | (go_at_call 39; refine (none_any _ _ _ _ _ _ h).mono ?_; rintro e w' ⟨rfl, rfl⟩) | (go_at_call 41; refine (left_any _ _ _ _ _ _ h).mono ?_; rintro e w' ⟨rfl, nq, rfl⟩))
    go_ret
  · exact ⟨rfl, _, rfl⟩
  · exact ⟨rfl, Quiet.refl _⟩
theorem Left_nil (w : World) :
    Calls Try.prog 23 #[.pointer none] w fun e w' => e = .returned (.int .i64 0) ∧ w = w' := by
  go_enter Try.func23, Try.ntmps23
  go_wp2_with (first | (go_at_call 39; refine (none_nil _).mono ?_; rintro e w' ⟨rfl, rfl⟩))
  go_ret
  exact ⟨rfl, rfl⟩
theorem Err_any (b g : Nat) (zs : List Int) (a : Nat) (bad : Bool) (w : World) (h : RIn w b g zs a bad) :
    Calls Try.prog 20 #[.pointer (some ⟨b, 0, none⟩)] w fun e w' => e = .returned (.int .i64 (if bad then 2 else 0)) ∧ w = w' := by
  cases bad
  all_goals
    go_enter Try.func20, Try.ntmps20
    go_wp2_with (first | (go_at_call 39; refine (none_any _ _ _ _ _ _ h).mono ?_; rintro e w' ⟨rfl, rfl⟩))
    go_ret
    exact ⟨rfl, rfl⟩
theorem Err_nil (w : World) :
    Calls Try.prog 20 #[.pointer none] w fun e w' => e = .returned (.int .i64 2) ∧ w = w' := by
  go_enter Try.func20, Try.ntmps20
  go_wp2_with (first | (go_at_call 39; refine (none_nil _).mono ?_; rintro e w' ⟨rfl, rfl⟩))
  go_ret
  exact ⟨rfl, rfl⟩
end Go.Proofs.Ytkmalnojkjmjiaa.codec
