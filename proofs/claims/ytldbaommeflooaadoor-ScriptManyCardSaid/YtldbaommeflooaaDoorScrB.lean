/- Scripts: the lines of a text: strings.Lines, an iterator that writes the cell that it has captured. -/
import Derived.Test.YtldbaommeflooaaDoorIter
import Derived.Test.YtldbaommeflooaaDoorShelf
import Derived.Test.YtldbaommeflooaaDoorScrA
import Derived.Laws.Strings3
import Derived.RegionIn
import Derived.BigRegionIn
import Derived.Shelf.Abstract
import Derived.Shelf.RegionOpen
namespace Go.Proofs.YtldbaommeflooaaDoor.scr
open Go Go.RowKit Go.Proofs.YtldbaommeflooaaDoor.kit Go.Proofs.YtldbaommeflooaaDoor.word Go.Shelf
set_option linter.unusedVariables false
set_option linter.unusedSimpArgs false
set_option maxRecDepth 20000
attribute [local go_sem] Oper.semAt_some
abbrev strV (l : List UInt8) : Value := .string ⟨l.toArray⟩
/-- how far the first line goes -/
def cutAt (s : List UInt8) : Nat := if 0 ≤ Lib.indexByte s 10 then (Lib.indexByte s 10).toNat + 1 else s.length
theorem indexByte_lt (s : List UInt8) (c : UInt8) : Lib.indexByte s c < s.length ∧ -1 ≤ Lib.indexByte s c := by
  induction s with
  | nil => simp [Lib.indexByte]
  | cons b l ih =>
    unfold Lib.indexByte
    split
    · simp
    · split
      · simp; omega
      · rename_i h
        have : Lib.indexByte l c ≠ -1 := by simpa using h
        simp only [List.length_cons]
        omega
theorem cutAt_pos (s : List UInt8) (h : s ≠ []) : 0 < cutAt s := by
  unfold cutAt
  split
  · omega
  · exact List.length_pos_iff.2 h
theorem cutAt_le (s : List UInt8) : cutAt s ≤ s.length := by
  unfold cutAt
  split
  · have := (indexByte_lt s 10).1; omega
  · exact Nat.le_refl _
def linesL (s : List UInt8) : List (List UInt8) :=
  if h : s = [] then [] else s.take (cutAt s) :: linesL (s.drop (cutAt s))
termination_by s.length
decreasing_by
  have := cutAt_pos s h
  have := List.length_pos_iff.2 h
  simp; omega
theorem linesL_nil : linesL [] = [] := by unfold linesL; simp
theorem linesL_cons (s : List UInt8) (h : s ≠ []) : linesL s = s.take (cutAt s) :: linesL (s.drop (cutAt s)) := by rw [linesL]; simp [h]
def strLen (w : World) (b : Nat) : Nat := match w.cell? ⟨b, 0, none⟩ with
  | some (.string s) => s.size
  | _ => 0
theorem strLen_of {w : World} {b : Nat} {s : List UInt8} {T : TypeId} (h : Blk w b #[strV s] T) : strLen w b = s.length := by
  unfold strLen
  rw [h.cell rfl]
  simp [ByteArray.size]
def KpL (b : Nat) (W W' : World) : Prop := W'.heap[b]? = W.heap[b]?
set_option maxHeartbeats 2000000 in
theorem Lines1_ok (n : Nat) (hn : 1 ≤ n) (b : Nat) (s : List UInt8) (hs : s.length ≤ 9223372036854775807) (w : World) (hb : Blk w b #[strV s] 9) :
    IterOK Fence.wide n Tryd.prog 42 #[.pointer (some ⟨b, 0, none⟩)] (fun x : List UInt8 => #[strV x]) [b] (KpL b) (fun xs => xs = linesL s) (fun pre => pre <+: linesL s) (fun pre x _ => pre ++ [x] <+: linesL s) w := fun l J Jx W hW hJ hJx hY h0 => by
  have hbW : Blk W b #[strV s] 9 := hb.keep hW (by simp)
  have HS := Lib.hid hs
  clear hb hs hW
  have hmx : Tryd.prog.follows .mixedOrders = true := by kernel_rfl
  refine callsIn_of_wp Tryd.func42 rfl trivial ?_ rfl
  simp only [Tryd.ntmps42, List.size_toArray, List.length_cons, List.length_nil, Nat.reduceAdd, Nat.reduceSub, Array.replicate_succ, Array.replicate_zero, List.push_toArray, List.append_toArray, List.nil_append, List.cons_append]
  gi_wp2
  gi_loopw [3] (fun p wr => ∃ (pre : List (List UInt8)) (rest : List UInt8), linesL s = pre ++ linesL rest ∧ rest.length ≤ s.length ∧ Blk wr b #[strV rest] 9 ∧ J pre wr) (fun p wr => strLen wr b)
  case atStart => exact ⟨[], s, rfl, Nat.le_refl _, hbW, h0⟩
  case round =>
    obtain ⟨pre, rest, hx, hle, hB, hJs⟩ := hrel
    have hc : wr.cell? ⟨b, 0, none⟩ = some (strV rest) := hB.cell rfl
    have hf := hB.free 0
    by_cases hr : rest = []
    · subst hr
      rw [linesL_nil, List.append_nil] at hx
      gi_wp2
      go_end0
      exact ⟨⟨_, rfl⟩, .inl ⟨pre, hx.symm, hJs⟩⟩
    · have hpos := List.length_pos_iff.2 hr
      have hln := linesL_cons rest hr
      have hbd := indexByte_lt rest 10
      have hsz : ByteArray.size ⟨rest.toArray⟩ = rest.length := by simp [ByteArray.size]
      have HS2 := HS.out
      by_cases hi : 0 ≤ Lib.indexByte rest 10
      · obtain ⟨i, hie⟩ : ∃ i : Nat, Lib.indexByte rest 10 = i := ⟨_, (Int.toNat_of_nonneg hi).symm⟩
        rw [hie] at hbd
        have hcut : cutAt rest = i + 1 := by unfold cutAt; rw [if_pos hi, hie]; simp
        have k8 : IntKind.i64.wrap ((i : Int) + 1) = (i : Int) + 1 := by rw [IntKind.wrap_i64]; omega
        have c1 : (0 : Int) ≤ (i : Int) + 1 := by omega
        have c2 : (i : Int) + 1 ≤ (rest.length : Int) := by omega
        have HLE := Lib.hid hle
        have HPOS := Lib.hid hpos
        clear hi HS2 hbd hpos hle
        have hix : ∀ w0, Calls Tryd.prog 43 #[.string ⟨rest.toArray⟩, .int .u8 10] w0 fun e w' => e = .returned (.int .i64 (i : Int)) ∧ w0 = w' := fun w0 => by
          have := Tryd.strings_IndexByte ⟨rest.toArray⟩ 10 w0
          simp only [eq_comm (b := w0)] at this
          rwa [show ((Int.toNat 10).toUInt8) = 10 from rfl, hie] at this
        gi_wp2_with (refine ⟨trivial, ?_⟩; gi_at_call 43; refine (callsIn_wide.2 (hix _)).mono ?_; rintro e w' ⟨rfl, rfl⟩)
        have e1 : (ByteArray.mk rest.toArray).extract 0 (i + 1) = ⟨(rest.take (i + 1)).toArray⟩ := by rw [ByteArray.extract_mk]; simp
        have e2 : (ByteArray.mk rest.toArray).extract (i + 1) rest.length = ⟨(rest.drop (i + 1)).toArray⟩ := by rw [ByteArray.extract_mk, List.take_of_length_le (by simp)]
        gi_region_o
        rw [← hcut]
        clear hcut e1 e2 c1 c2 k8
        obtain ⟨V, hV⟩ : ∃ V, (wr.setCell ⟨b, 0, none⟩ (Value.string ⟨(rest.drop (cutAt rest)).toArray⟩)).drew = V := ⟨_, rfl⟩
        rw [hV]
        have hch : Chg [b] wr V := by rw [← hV]; exact ((Chg.refl _ _).setCell (.inl (by simp)) _).drew
        have hBV : Blk V b #[strV (rest.drop (cutAt rest))] 9 := by rw [← hV]; exact (hB.set 0 _).drew
        clear hV
        have hpf : pre ++ [rest.take (cutAt rest)] <+: linesL s := by rw [hx, hln]; exact ⟨linesL (rest.drop (cutAt rest)), by simp⟩
        have hJV := hJ pre wr V hJs hch
        obtain ⟨fn, tmps, assign, body, hy, hR⟩ := hY pre (rest.take (cutAt rest)) V hJV hpf
        dsimp only [strV] at hy
        gi_wp2
        refine hR.mono ?_
        rintro e W3 (⟨rfl, hJ3, hk3⟩ | ⟨rfl, hJx3⟩)
        · have hB3 : Blk W3 b #[strV (rest.drop (cutAt rest))] 9 := by unfold Blk; rw [hk3]; exact hBV
          gi_wp2
          go_roundw
          case rel => exact ⟨pre ++ [rest.take (cutAt rest)], rest.drop (cutAt rest), by rw [hx, hln]; simp, by have := HLE.out; simp; omega, hB3, hJ3⟩
          case measure => rw [strLen_of hB3, strLen_of hB, List.length_drop]; have := cutAt_pos rest hr; have := HPOS.out; omega
        · gi_wp2
          refine bodyPost_ret (results_none rfl _ _ _) rfl ?_
          exact ⟨⟨_, rfl⟩, .inr ⟨pre ++ [rest.take (cutAt rest)], hpf, hJx3⟩⟩
      · have hcut : cutAt rest = rest.length := by unfold cutAt; rw [if_neg hi]
        have hie : Lib.indexByte rest 10 = -1 := by omega
        have hln1 : linesL rest = [rest] := by rw [hln, hcut, List.take_length, List.drop_length, linesL_nil]
        clear hln
        have HLE := Lib.hid hle
        have HPOS := Lib.hid hpos
        clear hi HS2 hbd hpos hle hcut
        have hix : ∀ w0, Calls Tryd.prog 43 #[.string ⟨rest.toArray⟩, .int .u8 10] w0 fun e w' => e = .returned (.int .i64 (-1)) ∧ w0 = w' := fun w0 => by
          have := Tryd.strings_IndexByte ⟨rest.toArray⟩ 10 w0
          simp only [eq_comm (b := w0)] at this
          rwa [show ((Int.toNat 10).toUInt8) = 10 from rfl, hie] at this
        clear hie
        have hpf : pre ++ [rest] <+: linesL s := by rw [hx, hln1]; exact List.prefix_refl _
        have hx2 : linesL s = (pre ++ [rest]) ++ linesL [] := by rw [hx, hln1, linesL_nil]; simp
        clear hx hln1
        have hBV : Blk (wr.setCell ⟨b, 0, none⟩ (.string ⟨#[]⟩)) b #[strV []] 9 := hB.set 0 _
        have hJV := hJ pre wr _ hJs ((Chg.refl [b] _).setCell (p := ⟨b, 0, none⟩) (.inl (by simp)) (.string ⟨#[]⟩))
        obtain ⟨fn, tmps, assign, body, hy, hR⟩ := hY pre rest _ hJV hpf
        gi_wp2_with (refine ⟨trivial, ?_⟩; gi_at_call 43; refine (callsIn_wide.2 (hix _)).mono ?_; rintro e w' ⟨rfl, rfl⟩)
        refine hR.mono ?_
        rintro e W3 (⟨rfl, hJ3, hk3⟩ | ⟨rfl, hJx3⟩)
        · have hB3 : Blk W3 b #[strV []] 9 := by unfold Blk; rw [hk3]; exact hBV
          gi_wp2
          go_roundw
          case rel => exact ⟨pre ++ [rest], [], hx2, by simp, hB3, hJ3⟩
          case measure => rw [strLen_of hB3, strLen_of hB]; exact HPOS.out
        · gi_wp2
          refine bodyPost_ret (results_none rfl _ _ _) rfl ?_
          exact ⟨⟨_, rfl⟩, .inr ⟨pre ++ [rest], hpf, hJx3⟩⟩
end Go.Proofs.YtldbaommeflooaaDoor.scr
