import Derived.Test.YtphfnjcboellhaaGreatDoorProg
import Derived.Test.YtphfnjcboellhaaGreatDoorKit
import Derived.OpenShut
import Derived.FnData
import Derived.LaidMore
import Derived.Lib.TrailingZeros
import Derived.Laws.Bits64b
import Derived.BigQuiet
namespace Go.Proofs.YtphfnjcboellhaaGreatDoor.bitm
open Go Go.RowKit kit
set_option maxRecDepth 20000
def Tab (w : World) : Prop := ∀ j, j < 64 -> w.cell? ⟨0, j, none⟩ = some (.int .u8 (Lib.deBruijn64tab.getD j 0))
theorem Tab.keep {W W' : World} (h : Tab W) (hc : Chg [] W W') : Tab W' := fun j hj => hc.keep (h j hj) (by simp)
theorem Tab.pos {W : World} (h : Tab W) : 0 < W.heap.size := by
 have h0 := h 0 (by decide)
 rcases Nat.eq_zero_or_pos W.heap.size with he | he
 · have : W.heap = #[] := Array.eq_empty_of_size_eq_zero he
   simp [World.cell?, this] at h0
 · exact he
theorem tz_key (x a : Nat) (hx : x < 18446744073709551616) (hx0 : x ≠ 0) (hlow : x &&& (18446744073709551616 - x) = a) :
 IntKind.u64.wrap (bits BinOp.and IntKind.u64 (x : Int) (IntKind.u64.wrap (-(x : Int))) * 285870213051353865) / 288230376151711744 = ((a * 285870213051353865 % 18446744073709551616 / 288230376151711744 : Nat) : Int) := by
 have e1 : IntKind.u64.wrap (-(x : Int)) = ((18446744073709551616 - x : Nat) : Int) := by rw [IntKind.wrap_u64]; omega
 rw [e1, bits_and_u64_nat x _ hx (by omega), hlow, IntKind.wrap_u64]
 omega
theorem tz_core (x k idx : Nat) (w : World) (hx0 : ((x : Int) == 0) = false)
 (key : IntKind.u64.wrap (bits BinOp.and IntKind.u64 (x : Int) (IntKind.u64.wrap (-(x : Int))) * 285870213051353865) / 288230376151711744 = (idx : Int))
 (hi : idx < 64) (hk : k < 64) (hcell : w.cell? ⟨0, idx, none⟩ = some (.int .u8 k)) :
 Calls Tryz.prog 160 #[.int .u64 x] w fun e w' => e = .returned (.int .i64 k) /\ w' = w := by
 go_enter Tryz.func160, Tryz.ntmps160
 go_wp2_with (simp only [key])
 go_ret
 exact ⟨rfl, rfl⟩
theorem tz_any (x : Nat) (hx : x < 18446744073709551616) (hx0 : x ≠ 0) (w : World) (hT : Tab w) :
 Calls Tryz.prog 160 #[.int .u64 x] w fun e w' => e = .returned (.int .i64 (Lib.ctz 64 x)) /\ w' = w := by
 obtain ⟨hlow, hk⟩ := Lib.lowest_bit 64 x hx0 hx
 obtain ⟨hi, htab⟩ := Lib.deBruijn64_at _ hk
 have hcell := hT _ hi
 rw [htab] at hcell
 exact tz_core x _ _ w (by simp; omega) (tz_key x _ hx hx0 hlow) hi hk hcell
theorem First_any (x : Nat) (hx : x < 18446744073709551616) (hx0 : x ≠ 0) (w : World) (hT : Tab w) :
 Calls Tryz.prog 158 #[.int .u64 x] w fun e w' => e = .returned (.tuple #[.int .i64 (Lib.ctz 64 x), .bool true]) /\ w' = w := by
 have hb : ((x : Int) == 0) = false := by simp; omega
 have HT := hid hT
 have HX := hid hx
 have HX0 := hid hx0
 clear hT hx hx0
 go_enter Tryz.func158, Tryz.ntmps158
 go_wp2_with (go_at_call 160; refine (tz_any x HX.out HX0.out _ HT.out).mono ?_; rintro e w' ⟨rfl, rfl⟩)
 go_ret2
 exact ⟨rfl, rfl⟩
theorem bit_any (i : Nat) (hi : i <= 20) (w : World) :
 Calls Tryz.prog 159 #[.int .i64 i] w fun e w' => e = .returned (.int .u64 ((2 ^ i : Nat) : Int)) /\ w' = w := by
 have h1 : ¬ ((i : Int) < 0) := by omega
 have h2 : ¬ ((63 : Int) < (i : Int)) := by omega
 rcases (by omega : i = 0 \/ i = 1 \/ i = 2 \/ i = 3 \/ i = 4 \/ i = 5 \/ i = 6 \/ i = 7 \/ i = 8 \/ i = 9 \/ i = 10 \/ i = 11 \/ i = 12 \/ i = 13 \/ i = 14 \/ i = 15 \/ i = 16 \/ i = 17 \/ i = 18 \/ i = 19 \/ i = 20) with rfl | rfl | rfl | rfl | rfl | rfl | rfl | rfl | rfl | rfl | rfl | rfl | rfl | rfl | rfl | rfl | rfl | rfl | rfl | rfl | rfl
 all_goals (clear hi h1 h2)
 all_goals (go_enter Tryz.func159, Tryz.ntmps159)
 all_goals go_wp2
 all_goals go_ret
 all_goals exact ⟨rfl, rfl⟩
theorem Put_any (u i : Nat) (hu : u < 18446744073709551616) (hi : i <= 20) (w : World) :
 Calls Tryz.prog 157 #[.int .u64 u, .int .i64 i] w fun e w' => e = .returned (.int .u64 ((u ||| 2 ^ i : Nat) : Int)) /\ w' = w := by
 have hp : 2 ^ i < 18446744073709551616 := Nat.lt_of_le_of_lt (Nat.pow_le_pow_right (by decide) hi) (by decide)
 have hb : bits BinOp.or IntKind.u64 (u : Int) ((2 ^ i : Nat) : Int) = ((u ||| 2 ^ i : Nat) : Int) := bits_or_u64_nat u (2 ^ i) hu hp
 have HPP := hid (fun V => bit_any i hi V)
 generalize 2 ^ i = p at *
 clear hu hp hi
 go_enter Tryz.func157, Tryz.ntmps157
 go_wp2_with (go_at_call 159; refine (HPP.out _).mono ?_; rintro e w' ⟨rfl, rfl⟩)
 go_ret
 exact ⟨rfl, rfl⟩
def bitsOf (l : List Nat) : Nat := l.foldr (fun i a => a ||| 2 ^ i) 0
theorem bitsOf_bit (n : Nat) : ∀ l : List Nat, Nat.testBit (bitsOf l) n = true -> n ∈ l
 | [], h => by simp [bitsOf] at h
 | i :: l, h => by
  simp only [bitsOf, List.foldr_cons, Nat.testBit_or, Bool.or_eq_true, Nat.testBit_two_pow, decide_eq_true_eq] at h
  rcases h with h | h
  · exact List.mem_cons_of_mem _ (bitsOf_bit n l h)
  · simp [h]
theorem bitsOf_lt : ∀ l : List Nat, (∀ n ∈ l, n <= 20) -> bitsOf l < 2 ^ 21
 | [], _ => by decide
 | i :: l, h => by
  simp only [bitsOf, List.foldr_cons]
  exact Nat.or_lt_two_pow (bitsOf_lt l fun n hn => h n (List.mem_cons_of_mem _ hn)) (Nat.pow_lt_pow_right (by decide) (by have := h i (by simp); omega))
theorem range_short : ∀ (f : Nat) (l : List Nat), (∀ n, n < f -> n ∈ l) -> f <= l.length
 | 0, _, _ => Nat.zero_le _
 | f + 1, l, h => by
  have h1 := h f (Nat.lt_succ_self f)
  have h2 := range_short f (l.erase f) fun n hn => (List.mem_erase_of_ne (by omega)).2 (h n (by omega))
  rw [List.length_erase_of_mem h1] at h2
  have h3 : 0 < l.length := List.length_pos_of_mem h1
  omega
theorem ctz_free (l : List Nat) (h : ∀ n ∈ l, n <= 20) : Lib.ctz 64 (18446744073709551615 - bitsOf l) <= l.length := by
 have hlt := bitsOf_lt l h
 have h21 : (2 : Nat) ^ 21 = 2097152 := by decide
 generalize hx : 18446744073709551615 - bitsOf l = x
 have hx0 : 0 < x := by omega
 obtain ⟨m, hm, _⟩ := Lib.ctzFrom_spec 64 x hx0 (by rw [show (2 : Nat) ^ 64 = 18446744073709551616 from by decide]; omega)
 have hc : Lib.ctz 64 x = Lib.ctzFrom 64 x := by unfold Lib.ctz; rw [if_neg (by omega)]
 rw [hc]
 refine range_short _ _ fun n hn => bitsOf_bit n l ?_
 have hn64 : n < 64 := by omega
 have e1 : Nat.testBit x n = false := by
  rw [hm, Nat.testBit_two_pow_mul]
  simp; omega
 have e2 : x = 2 ^ 64 - (bitsOf l + 1) := by
  have : (2 : Nat) ^ 64 = 18446744073709551616 := by decide
  omega
 rw [e2, Nat.testBit_two_pow_sub_succ (by rw [show (2 : Nat) ^ 64 = 18446744073709551616 from by decide]; omega)] at e1
 simpa [hn64] using e1
def Marks (u : Int) (k : Int) : Prop := ∃ l : List Nat, u = (bitsOf l : Int) /\ (l.length : Int) <= k /\ ∀ n ∈ l, n <= 20
def markU (u s : Int) : Int := ((u.toNat ||| 2 ^ (min s 20).toNat : Nat) : Int)
def freeU (u : Int) : Int := (Lib.ctz 64 (18446744073709551615 - u.toNat) : Nat)
theorem Marks.zero : Marks 0 0 := ⟨[], rfl, by simp, by simp⟩
theorem Marks.more {u k k' : Int} (h : Marks u k) (hk : k <= k') : Marks u k' := by obtain ⟨l, h1, h2, h3⟩ := h; exact ⟨l, h1, by omega, h3⟩
theorem Marks.mark {u k s : Int} (h : Marks u k) (hs : 0 <= s) : Marks (markU u s) (k + 1) := by
 obtain ⟨l, rfl, h2, h3⟩ := h
 refine ⟨(min s 20).toNat :: l, ?_, by simp; omega, fun n hn => ?_⟩
 · simp [markU, bitsOf]
 · rcases List.mem_cons.1 hn with rfl | hn
   · omega
   · exact h3 n hn
theorem Marks.free {u k : Int} (h : Marks u k) : 0 <= freeU u /\ freeU u <= k := by
 obtain ⟨l, rfl, h2, h3⟩ := h
 have := ctz_free l h3
 simp only [freeU, Int.toNat_natCast]
 omega
theorem Marks.bd {u k : Int} (h : Marks u k) : 0 <= u /\ u < 2097152 := by
 obtain ⟨l, rfl, h2, h3⟩ := h
 have := bitsOf_lt l h3
 have h21 : (2 : Nat) ^ 21 = 2097152 := by decide
 omega
theorem freeU_bd {u : Int} (h : 0 <= u /\ u < 18446744073709551615) : 0 <= freeU u /\ freeU u < 64 := by
 have h1 := (Lib.lowest_bit 64 (18446744073709551615 - u.toNat) (by omega) (by rw [show (2 : Nat) ^ 64 = 18446744073709551616 from by decide]; omega)).2
 unfold freeU
 omega
theorem markU_bd {u s : Int} (h : 0 <= u /\ u < 2097152) (hs : 0 <= s) : 0 <= markU u s /\ markU u s < 2097152 := by
 have h1 : u.toNat ||| 2 ^ (min s 20).toNat < 2 ^ 21 := Nat.or_lt_two_pow (by rw [show (2 : Nat) ^ 21 = 2097152 from by decide]; omega) (Nat.pow_lt_pow_right (by decide) (by omega))
 have h21 : (2 : Nat) ^ 21 = 2097152 := by decide
 unfold markU
 omega
theorem xor_top (U : Nat) (h : U < 18446744073709551616) : bits BinOp.xor IntKind.u64 (if IntKind.u64.signed = true then -1 else IntKind.u64.max) (U : Int) = ((18446744073709551615 - U : Nat) : Int) := by
 have h0 : (if IntKind.u64.signed = true then (-1 : Int) else IntKind.u64.max) = ((18446744073709551615 : Nat) : Int) := by decide
 rw [h0]
 have h2 : (BitVec.ofInt 64 (U : Int)).toNat = U := by
  rw [BitVec.ofInt_natCast, BitVec.toNat_ofNat]; exact Nat.mod_eq_of_lt (by omega)
 have h1 : BitVec.ofInt 64 ((18446744073709551615 : Nat) : Int) = BitVec.allOnes 64 := by decide
 show IntKind.u64.wrap ((BitVec.ofInt 64 ((18446744073709551615 : Nat) : Int) ^^^ BitVec.ofInt 64 (U : Int)).toNat : Int) = _
 rw [h1, BitVec.allOnes_xor, BitVec.toNat_not, h2, IntKind.wrap_u64]
 rw [show (2 : Nat) ^ 64 = 18446744073709551616 from by decide]
 omega
end Go.Proofs.YtphfnjcboellhaaGreatDoor.bitm
