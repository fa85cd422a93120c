/- Package isa: registers, targets, calls. -/
import Derived.Test.YtihgljfiggdcpaaIsaA
import Derived.Laws.RangeString
namespace Go.Proofs.Ytihgljfiggdcpaa.isa
open Go Go.RowKit Go.Proofs.Ytihgljfiggdcpaa.kit Go.Proofs.Ytihgljfiggdcpaa.codec
set_option linter.unusedVariables false
set_option maxRecDepth 20000

def bitV (x : Int) : Int := (2 ^ x.toNat : Nat)
theorem bit_any (x : Int) (h : 0 ≤ x ∧ x < 8) (w : World) : Calls Try.prog 66 #[.int .i64 x] w fun e w' => e = .returned (.int .u64 (bitV x)) ∧ w = w' := by
  have : x = 0 ∨ x = 1 ∨ x = 2 ∨ x = 3 ∨ x = 4 ∨ x = 5 ∨ x = 6 ∨ x = 7 := by omega
  rcases this with rfl | rfl | rfl | rfl | rfl | rfl | rfl | rfl
  all_goals (go_enter Try.func66, Try.ntmps66; go_wp2; go_ret)
  all_goals exact ⟨by rfl, rfl⟩
def orV (m x : Int) : Int := bits BinOp.or IntKind.u64 m (bitV x)
theorem Put_any (m x : Int) (h : 0 ≤ x ∧ x < 8) (w : World) : Calls Try.prog 64 #[.int .u64 m, .int .i64 x] w fun e w' => e = .returned (.int .u64 (orV m x)) ∧ w = w' := by
  go_enter Try.func64, Try.ntmps64
  go_wp2_with (go_at_call 66; refine (bit_any _ h _).mono ?_; rintro e w1 ⟨rfl, rfl⟩)
  go_ret
  exact ⟨rfl, rfl⟩

/-- a string's letters as registers -/
def pickI (ch : UInt8) (a b c : Int) : Int := if ch.toNat = 97 then a else if ch.toNat = 98 then b else c
def pickL (s : ByteArray) (a b c : Int) : List Int := s.data.toList.map fun ch => pickI ch a b c
def setL (l : List Int) : Int := l.foldl orV 0
theorem setL_snoc (l : List Int) (x : Int) : setL (l ++ [x]) = orV (setL l) x := by unfold setL; rw [List.foldl_append]; rfl
def iterPosAt (w : World) (k : Nat) : Nat := match w.heap[k]? with | some (.stringIter _ p) => p | _ => 0
set_option maxHeartbeats 2000000 in
theorem set_any (op a b c n : Int) (s : ByteArray) (hs : s.size ≤ 10) (hasc : ∀ i (h : i < s.size), (s[i]'h).toNat < 128) (hr : ∀ x ∈ pickL s a b c, 0 ≤ x ∧ x < 8) (w : World) :
    Calls Try.prog 56 #[.agg #[.int .i64 op, .int .i64 a, .int .i64 b, .int .i64 c, .int .u32 n], .string s] w fun e w' => e = .returned (.int .u64 (setL (pickL s a b c))) ∧ Chg [] w w' := by
  have hL : (pickL s a b c).length = s.size := by unfold pickL; rw [List.length_map]; rfl
  have e1 : ∀ q, ((w.alloc (.cells #[.int .i64 op, .int .i64 a, .int .i64 b, .int .i64 c, .int .u32 n] 60)).iter s q).cell? ⟨w.heap.size, 1, none⟩ = some (.int .i64 a) := fun q => ((Blk.new w _ _).alloc (.stringIter s q)).cell rfl
  have e2 : ∀ q, ((w.alloc (.cells #[.int .i64 op, .int .i64 a, .int .i64 b, .int .i64 c, .int .u32 n] 60)).iter s q).cell? ⟨w.heap.size, 2, none⟩ = some (.int .i64 b) := fun q => ((Blk.new w _ _).alloc (.stringIter s q)).cell rfl
  have e3 : ∀ q, ((w.alloc (.cells #[.int .i64 op, .int .i64 a, .int .i64 b, .int .i64 c, .int .u32 n] 60)).iter s q).cell? ⟨w.heap.size, 3, none⟩ = some (.int .i64 c) := fun q => ((Blk.new w _ _).alloc (.stringIter s q)).cell rfl
  have hmu : ∀ q, iterPosAt ((w.alloc (.cells #[.int .i64 op, .int .i64 a, .int .i64 b, .int .i64 c, .int .u32 n] 60)).iter s q) (w.heap.size + 1) = q := fun q => by
    have h := World.iter_heap (w.alloc (.cells #[.int .i64 op, .int .i64 a, .int .i64 b, .int .i64 c, .int .u32 n] 60)) s q
    rw [show (w.alloc (.cells #[.int .i64 op, .int .i64 a, .int .i64 b, .int .i64 c, .int .u32 n] 60)).heap.size = w.heap.size + 1 by simp] at h
    unfold iterPosAt; rw [h]
  have hch : ∀ q, Chg [] w ((w.alloc (.cells #[.int .i64 op, .int .i64 a, .int .i64 b, .int .i64 c, .int .u32 n] 60)).iter s q) := fun q => ((Chg.refl _ _).alloc _).alloc _
  have hnx : ∀ (q : Nat) (h : q < s.size) (ty : TypeId), (Instr.next (.pointer (some ⟨w.heap.size + 1, 0, none⟩)) true ty).run Try.prog ((w.alloc (.cells #[.int .i64 op, .int .i64 a, .int .i64 b, .int .i64 c, .int .u32 n] 60)).iter s q) = .ok (.tuple #[.bool true, .int .i64 q, .int .i32 (s[q]'h).toNat]) ((w.alloc (.cells #[.int .i64 op, .int .i64 a, .int .i64 b, .int .i64 c, .int .u32 n] 60)).iter s (q + 1)) := fun q h ty => by
    have := run_next_ascii (P := Try.prog) (w.alloc (.cells #[.int .i64 op, .int .i64 a, .int .i64 b, .int .i64 c, .int .u32 n] 60)) s q ty h (hasc q h)
    rw [show (w.alloc (.cells #[.int .i64 op, .int .i64 a, .int .i64 b, .int .i64 c, .int .u32 n] 60)).heap.size = w.heap.size + 1 by simp] at this
    exact this
  have hne : ∀ (q : Nat) (h : ¬ q < s.size) (ty : TypeId), (Instr.next (.pointer (some ⟨w.heap.size + 1, 0, none⟩)) true ty).run Try.prog ((w.alloc (.cells #[.int .i64 op, .int .i64 a, .int .i64 b, .int .i64 c, .int .u32 n] 60)).iter s q) = .ok (.tuple #[.bool false]) ((w.alloc (.cells #[.int .i64 op, .int .i64 a, .int .i64 b, .int .i64 c, .int .u32 n] 60)).iter s q) := fun q h ty => by
    have := run_next_end (P := Try.prog) (w.alloc (.cells #[.int .i64 op, .int .i64 a, .int .i64 b, .int .i64 c, .int .u32 n] 60)) s q ty h
    rw [show (w.alloc (.cells #[.int .i64 op, .int .i64 a, .int .i64 b, .int .i64 c, .int .u32 n] 60)).heap.size = w.heap.size + 1 by simp] at this
    exact this
  have HNX := Lib.hid hnx
  have HNE := Lib.hid hne
  have HL := Lib.hid hL
  have HR := Lib.hid hr
  have HMU := Lib.hid hmu
  have HCH := Lib.hid hch
  have E1 := Lib.hid e1
  have E2 := Lib.hid e2
  have E3 := Lib.hid e3
  clear hnx hne hL hr hmu hch e1 e2 e3
  go_enter Try.func56, Try.ntmps56
  go_wp2_with fail
  go_loopw [5] (fun m wr => ∃ pos : Nat, pos ≤ s.size ∧ wr = (w.alloc (.cells #[.int .i64 op, .int .i64 a, .int .i64 b, .int .i64 c, .int .u32 n] 60)).iter s pos ∧ m = .int .u64 (setL ((pickL s a b c).take pos))) (fun _ wr => s.size - iterPosAt wr (w.heap.size + 1))
  case atStart => exact ⟨0, Nat.zero_le _, rfl, rfl⟩
  case round =>
    obtain ⟨pos, hps, rfl, rfl⟩ := hrel
    by_cases hp : pos < s.size
    · have hn1 := HNX.out pos hp
      have f1 := E1.out (pos + 1)
      have f2 := E2.out (pos + 1)
      have f3 := E3.out (pos + 1)
      have hmu0 := HMU.out pos
      have hmu1 := HMU.out (pos + 1)
      have hx : (pickL s a b c)[pos]? = some (pickI (s[pos]'hp) a b c) := by
        have h2 : pos < s.data.toList.length := hp
        unfold pickL
        rw [List.getElem?_map, List.getElem?_eq_getElem h2]
        rfl
      have hb := HR.out _ (List.mem_of_getElem? hx)
      have ht : (pickL s a b c).take (pos + 1) = (pickL s a b c).take pos ++ [pickI (s[pos]'hp) a b c] := by rw [List.take_add_one, hx]; rfl
      have HT := Lib.hid ht
      have HB := Lib.hid hb
      clear hx ht hb
      generalize hW1 : (w.alloc (.cells #[.int .i64 op, .int .i64 a, .int .i64 b, .int .i64 c, .int .u32 n] 60)).iter s (pos + 1) = W1 at *
      have HW1 := Lib.hid hW1
      clear hW1
      generalize (w.alloc (.cells #[.int .i64 op, .int .i64 a, .int .i64 b, .int .i64 c, .int .u32 n] 60)).iter s pos = W0 at *
      have HP := Lib.hid hp
      generalize hch : (s[pos]'hp) = ch at *
      clear hch hp
      by_cases h97 : ch.toNat = 97
      · have HQ := Lib.hid (show pickI ch a b c = a by unfold pickI; rw [if_pos h97])
        rw [HQ.out] at HT HB
        rw [h97] at hn1
        clear h97
        go_wp2_with (go_at_call 64; refine (Put_any _ _ HB.out _).mono ?_; rintro e w3 ⟨rfl, rfl⟩)
        go_roundw
        case rel => exact ⟨pos + 1, HP.out, HW1.out.symm, by rw [HT.out, setL_snoc]⟩
        case measure => have := HP.out; omega
      · by_cases h98 : ch.toNat = 98
        · have HQ := Lib.hid (show pickI ch a b c = b by unfold pickI; rw [if_neg h97, if_pos h98])
          rw [HQ.out] at HT HB
          rw [h98] at hn1
          clear h97 h98
          go_wp2_with (go_at_call 64; refine (Put_any _ _ HB.out _).mono ?_; rintro e w3 ⟨rfl, rfl⟩)
          go_roundw
          case rel => exact ⟨pos + 1, HP.out, HW1.out.symm, by rw [HT.out, setL_snoc]⟩
          case measure => have := HP.out; omega
        · have HQ := Lib.hid (show pickI ch a b c = c by unfold pickI; rw [if_neg h97, if_neg h98])
          rw [HQ.out] at HT HB
          have n97 : ((ch.toNat : Int) == 97) = false := by simp; omega
          have n98 : ((ch.toNat : Int) == 98) = false := by simp; omega
          have m97 : ¬ (ch.toNat : Int) = 97 := by omega
          have m98 : ¬ (ch.toNat : Int) = 98 := by omega
          clear h97 h98
          go_wp2_with (go_at_call 64; refine (Put_any _ _ HB.out _).mono ?_; rintro e w3 ⟨rfl, rfl⟩)
          go_roundw
          case rel => exact ⟨pos + 1, HP.out, HW1.out.symm, by rw [HT.out, setL_snoc]⟩
          case measure => have := HP.out; omega
    · have hn1 := HNE.out pos hp
      obtain rfl : pos = s.size := by omega
      have hch := HCH.out s.size
      have HC1 := Lib.hid hch
      clear hch hp
      have ht : (pickL s a b c).take s.size = pickL s a b c := List.take_of_length_le (by rw [HL.out]; exact Nat.le_refl _)
      rw [ht]
      clear ht
      generalize (w.alloc (.cells #[.int .i64 op, .int .i64 a, .int .i64 b, .int .i64 c, .int .u32 n] 60)).iter s s.size = W0 at *
      go_wp2_with fail
      go_ret
      exact ⟨rfl, HC1.out⟩
end Go.Proofs.Ytihgljfiggdcpaa.isa
