/- Package mem: Fill, Clone, and what is told of nobody's memory; plain.Words. -/
import Derived.Test.YtbbpnpokccfhjaaMem2
namespace Go.Proofs.Ytbbpnpokccfhjaa.mem
open Go Go.RowKit Go.Proofs.Ytbbpnpokccfhjaa.kit
set_option linter.unusedVariables false
set_option maxRecDepth 20000

theorem Look_nil (i k : Int) (w : World) :
    Calls Try.prog 82 #[.pointer none, .agg #[.int .i64 i, .int .i64 k]] w fun e w' => e = .returned (.tuple #[.slice none 0 0, .int .i64 1]) ∧ Chg [] w w' := by
  go_enter Try.func82, Try.ntmps82
  go_wp2
  go_ret2
  exact ⟨rfl, (Chg.refl _ _).alloc _⟩
theorem Fill_nil (i : Int) (v : Value) (w : World) :
    Calls Try.prog 61 #[.pointer none, .int .i64 i, v] w fun e w' => e = .returned (.int .i64 1) ∧ w = w' := by
  go_enter Try.func61, Try.ntmps61
  go_wp2
  go_ret
  exact ⟨rfl, rfl⟩
theorem Clone_nil (w : World) : Calls Try.prog 48 #[.pointer none] w fun e w' => e = .returned (.pointer none) ∧ w = w' := by
  go_enter Try.func48, Try.ntmps48
  go_wp2
  go_ret
  exact ⟨rfl, rfl⟩

/-- words laid over others from a place on -/
def fillL (ws : List Int) (i : Nat) (l : List Int) : List Int := ws.take i ++ (l ++ ws.drop (i + l.length))
theorem fillL_length (ws : List Int) (i : Nat) (l : List Int) (h : i + l.length ≤ ws.length) : (fillL ws i l).length = ws.length := by simp [fillL]; omega
theorem take_splice {α : Type} (L : List α) (i n : Nat) (cs : List α) (h : i + cs.length ≤ n) (hn : n ≤ L.length) : (splice L i cs).take n = splice (L.take n) i cs := by
  unfold splice
  rw [List.take_append (l₁ := L.take i), List.take_take, Nat.min_eq_right (show i ≤ n by omega), List.length_take, Nat.min_eq_left (show i ≤ L.length by omega), List.take_append (l₁ := cs),
    List.take_of_length_le (l := cs) (show cs.length ≤ n - i by omega), List.take_take, Nat.min_eq_left (show i ≤ n by omega), List.drop_take, Nat.sub_sub]

theorem Fill_ok (b g c : Nat) (ws l : List Int) (n : Int) (i : Nat) (v : Value) (w : World) (h : MemAt w b (.slice (some ⟨g, 0, none⟩) ws.length c) ws n) (hl : ReadsW w v l) (hi : i + l.length ≤ ws.length) :
    Calls Try.prog 61 #[.pointer (some ⟨b, 0, none⟩), .int .i64 i, v] w fun e w' => e = .returned (.int .i64 0) ∧ MemAt w' b (.slice (some ⟨g, 0, none⟩) ws.length c) (fillL ws i l) n ∧ Chg [g] w w' := by
  obtain ⟨i0, hi0, hz0, hz1, hz2⟩ := info_parts info32
  obtain ⟨va, vc, rfl, _⟩ := reads_slice hl.1
  have hc : ws.length ≤ c := by obtain ⟨_, _, he, hc⟩ := h.slice; simp at he; omega
  obtain ⟨dp, dc, es, hdp⟩ := slice_tail (P := Try.prog) Try.underlying23 sz32 g ws.length c i (by omega)
  obtain ⟨cur, hcur, hcs, htake⟩ : ∃ cur, Blk w g cur 22 ∧ cur.size = c ∧ cur.toList.take ws.length = ws.map (Value.int .u32) := by
    rcases h.row.2 with ⟨he, _⟩ | ⟨g', cap, cur, he, _, hg, _, _, hs, ht⟩
    · simp at he
    · simp only [Value.slice.injEq, Option.some.injEq, Addr.mk.injEq, and_true, true_and] at he
      obtain ⟨rfl, rfl⟩ := he
      exact ⟨cur, hg, by simpa using hs, by simpa using ht⟩
  have c0 : w.cell? ⟨b, 0, none⟩ = some (.slice (some ⟨g, 0, none⟩) ws.length c) := h.box.cell rfl
  have HI := Lib.hid (insB_true (size := ws.length) (at_ := i) (len := l.length) ⟨by omega, by omega, by omega, by omega⟩)
  have H := Lib.hid h
  have HL := Lib.hid hl
  have hs := h.short
  have HS := Lib.hid hs
  have HI2 := Lib.hid hi
  have hmin0 : Nat.min l.length (ws.length - i) = l.length := Nat.min_eq_left (by omega)
  have HF := Lib.hid (show i + Nat.min l.length (ws.length - i) ≤ cur.size by rw [hmin0]; omega)
  have HPOS := Lib.hid (show 0 < Nat.min l.length (ws.length - i) → dp = some ⟨g, i, none⟩ from fun hp => hdp (by rw [hmin0] at hp; omega) hc)
  clear hmin0
  have HDP := Lib.hid hdp
  have HCUR := Lib.hid hcur
  have HCS := Lib.hid hcs
  have HC := Lib.hid hc
  have HT := Lib.hid htake
  have hsz : (Try.prog.info? 22).map (·.size) = some 1 := sz32
  have HSZ := Lib.hid hsz
  have hli : (l.length : Int) ≤ 4096 := by omega
  have hwi : (ws.length : Int) ≤ 4096 := by omega
  clear h hl hdp hcur hcs htake hi0 hz0 hz1 hz2 hsz hs hi hc
  go_enter Try.func61, Try.ntmps61
  go_wp2_with (first | (go_at_call 85; refine (Inside_any _ _ _ _ (by omega) (by omega)).mono ?_; rintro e w1 ⟨rfl, hc1⟩; rw [HI.out]; have d0 := hc1.keep c0 (by simp); have HC1 := Lib.hid hc1; clear hc1) | ((with_reducible show wpList _ _ _ (⟨some 29, _, _, _, _, _⟩ :: _) _ _); refine wpList_copy_any (o := ⟨some 29, _, _, _, _, _⟩) rfl (.tmp 27) (.tmp 28) 23 23 rfl 22 Try.underlying23 HSZ.out dp (ws.length - i) dc rfl (.slice va l.length vc) rfl l.length _ (HL.out.chg HC1.out).1 (ints_oneCell _ _) g i cur 22 (HCUR.out.keep HC1.out (by simp)) HPOS.out HF.out ?_; intro w2 hb2 hc2))
  go_ret
  have hi := HI2.out
  have hmin : Nat.min l.length (ws.length - i) = l.length := Nat.min_eq_left (by omega)
  rw [hmin, List.take_of_length_le (by simp)] at hb2
  have hwf : ∀ x ∈ fillL ws i l, (Lit.int .u32 x).wf = true := fun x hx => by
    simp only [fillL, List.mem_append] at hx
    rcases hx with hx | hx | hx
    · exact H.out.wf x (List.mem_of_mem_take hx)
    · exact HL.out.2 x hx
    · exact H.out.wf x (List.mem_of_mem_drop hx)
  have hlen := fillL_length ws i l hi
  have hc5 := HC.out
  refine ⟨rfl, ⟨(H.out.box.keep HC1.out (by simp)).keep hc2 (by simp; exact Ne.symm (H.out.far g rfl)), ?_, H.out.far, hwf, by rw [hlen]; exact HS.out⟩, (HC1.out.mono (by simp)).trans hc2⟩
  unfold OwnW
  rw [hlen]
  refine ⟨by simp [hlen], .inr ⟨g, c, _, rfl, Nat.zero_le _, hb2, hc5, ?_, ?_, ?_⟩⟩
  · have := H.out.row.2
    rcases this with ⟨he, _⟩ | ⟨g', cap, cur', he, _, _, _, hm, _, _⟩
    · simp at he
    · simp at he; omega
  · have := length_splice cur.toList i (l.map (Value.int .u32)) (by have := HCS.out; simp; omega)
    simp only [List.size_toArray, this, Nat.mul_one, Array.length_toList]
    exact HCS.out
  · rw [Nat.mul_one, List.toList_toArray, take_splice _ _ _ _ (by simp; omega) (by have := HCS.out; simp; omega), HT.out]
    simp [splice, fillL, List.map_take, List.map_drop]

theorem Fill_out (b : Nat) (sv : Value) (ws l : List Int) (n : Int) (i : Int) (v : Value) (w : World) (h : MemAt w b sv ws n) (hl : ReadsW w v l) (hz : l.length ≤ 1000000) (hi : i < 0 ∨ (ws.length : Int) < i + l.length) :
    Calls Try.prog 61 #[.pointer (some ⟨b, 0, none⟩), .int .i64 i, v] w fun e w' => e = .returned (.int .i64 5) ∧ Chg [] w w' := by
  obtain ⟨va, vc, rfl, _⟩ := reads_slice hl.1
  obtain ⟨a, c, rfl, _⟩ := h.slice
  have c0 : w.cell? ⟨b, 0, none⟩ = some (.slice a ws.length c) := h.box.cell rfl
  have HI := Lib.hid (insB_false (size := ws.length) (at_ := i) (len := l.length) (by omega))
  have hs := h.short
  have hli : (l.length : Int) ≤ 1000000 := by omega
  have hwi : (ws.length : Int) ≤ 4096 := by omega
  clear h hl hz hi hs
  go_enter Try.func61, Try.ntmps61
  go_wp2_with (go_at_call 85; refine (Inside_any _ _ _ _ (by omega) (by omega)).mono ?_; rintro e w1 ⟨rfl, hc1⟩; rw [HI.out]; have HC1 := Lib.hid hc1; clear hc1)
  go_ret
  exact ⟨rfl, HC1.out⟩
end Go.Proofs.Ytbbpnpokccfhjaa.mem
