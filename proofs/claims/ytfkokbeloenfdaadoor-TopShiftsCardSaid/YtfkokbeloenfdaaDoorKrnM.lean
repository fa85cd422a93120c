/- The kernel: Job, Step, End. -/
import Derived.Test.YtfkokbeloenfdaaDoorKrnL
namespace Go.Proofs.YtfkokbeloenfdaaDoor.krn
open Go Go.RowKit Go.Proofs.YtfkokbeloenfdaaDoor.kit Go.Shelf
set_option linter.unusedVariables false
set_option linter.unusedSimpArgs false
set_option maxRecDepth 20000
def Led.get (s : Led) (i : Nat) : Jb := if s.act.testBit i = true then s.all.getD ((s.now (i : Int)).getD 0).toNat Jb.zero else Jb.zero
def Jb.val (j : Jb) : Value := .agg j.cells.toArray
theorem LedAt.job {w : World} {B db n : Nat} {s : Led} {q : LedQ} (h : LedAt w B db n s q) {g j : Nat} {x : Jb} (hq : q.aa = some ⟨g, 0, none⟩) (hj : s.all[j]? = some x) :
    ((w.cell? ⟨g, j * 8, none⟩ = some (.int .i64 x.tk) ∧ w.cell? ⟨g, j * 8 + 1, none⟩ = some (.int .i64 x.no) ∧ w.cell? ⟨g, j * 8 + 2, none⟩ = some (.int .i64 x.rel) ∧ w.cell? ⟨g, j * 8 + 3, none⟩ = some (.int .i64 x.dl)) ∧
    w.cell? ⟨g, j * 8 + 4, none⟩ = some (.int .i64 x.st) ∧ w.cell? ⟨g, j * 8 + 5, none⟩ = some (.int .i64 x.en) ∧ w.cell? ⟨g, j * 8 + 6, none⟩ = some (.int .i64 x.steps) ∧ w.cell? ⟨g, j * 8 + 7, none⟩ = some (.bool x.missed)) ∧
    ∀ f, f < 8 → w.frozen? ⟨g, j * 8 + f, none⟩ = false := by
  have hr := h.ra
  rw [hq] at hr
  have hc := fun f v (hf : f < 8) hv => row_cell (enc := Jb.cells) (sz := 8) (fun _ => rfl) hr j f hf x hj v hv
  have hv0 : x.cells[0]? = some (.int .i64 x.tk) := rfl
  refine ⟨⟨⟨?_, (hc 1 _ (by decide) rfl).1, (hc 2 _ (by decide) rfl).1, (hc 3 _ (by decide) rfl).1⟩, (hc 4 _ (by decide) rfl).1, (hc 5 _ (by decide) rfl).1, (hc 6 _ (by decide) rfl).1, (hc 7 _ (by decide) rfl).1⟩, fun f hf => World.ownsRow.frozenAt hr _⟩
  have := (hc 0 _ (by decide) hv0).1
  rwa [Nat.add_zero] at this
theorem Led.get_of {s : Led} {i j : Nat} {x : Jb} (hb : s.act.testBit i = true) (hn : s.now (i : Int) = some (j : Int)) (hj : s.all[j]? = some x) : s.get i = x := by
  unfold Led.get
  rw [if_pos hb, hn, Option.getD_some, Int.toNat_natCast, List.getD_eq_getElem?_getD, hj]; rfl
theorem LedOK.job {s : Led} {n : Nat} (hk : LedOK s n) {i : Nat} (hb : s.act.testBit i = true) : ∃ (j : Nat) (x : Jb), s.now (i : Int) = some (j : Int) ∧ s.all[j]? = some x ∧ j < s.all.length ∧ s.get i = x := by
  obtain ⟨-, j, h1, h2⟩ := hk.now i hb
  have h3 : s.all[j]? = some (s.all.getD j Jb.zero) := by rw [List.getD_eq_getElem?_getD, List.getElem?_eq_getElem h2]; rfl
  exact ⟨j, _, h1, h3, h2, Led.get_of hb h1 h3⟩
set_option maxHeartbeats 2000000 in
theorem Job_any (B db n : Nat) (s : Led) (q : LedQ) (i : Nat) (w : World) (h : LedAt w B db n s q) (hk : LedOK s n) (hi : i ≤ 20) :
    Calls Tryd.prog 13 #[.pointer (some ⟨db, 0, none⟩), .int .i64 (i : Int)] w fun e w' => e = .returned (.tuple #[(s.get i).val, .bool (s.act.testBit i)]) ∧ Chg [] w w' := by
  have HW1 : Hid (Chg [] w (w.alloc (.cells #[.int .i64 0, .int .i64 0, .int .i64 0, .int .i64 0, .int .i64 0, .int .i64 0, .int .i64 0, .bool false] 60))) := Lib.hid ((Chg.refl [] w).alloc _)
  have HBN : Hid (Blk (w.alloc (.cells #[.int .i64 0, .int .i64 0, .int .i64 0, .int .i64 0, .int .i64 0, .int .i64 0, .int .i64 0, .bool false] 60)) w.heap.size #[.int .i64 0, .int .i64 0, .int .i64 0, .int .i64 0, .int .i64 0, .int .i64 0, .int .i64 0, .bool false] 60) := Lib.hid (Blk.new w _ _)
  have HH := Lib.hid (has_any B db n s q i _ (h.fresh HW1.out) hk hi)
  cases hb : s.act.testBit i with
  | false =>
    have hz : s.get i = Jb.zero := by unfold Led.get; rw [if_neg (by rw [hb]; decide)]
    rw [hz]
    rw [hb] at HH
    clear h hk hi hb hz
    go_enter Tryd.func13, Tryd.ntmps13
    go_wp2_with (first | (go_at_call 31; refine HH.out.mono ?_; rintro e w' ⟨rfl, rfl⟩) | (refine Go.Proofs.YtfkokbeloenfdaaDoor.blk.wpList_store_blk rfl 60 (.tmp 4) (.tmp 10) rfl w.heap.size #[.int .i64 0, .int .i64 0, .int .i64 0, .int .i64 0, .int .i64 0, .int .i64 0, .int .i64 0, .bool false] rfl rfl HBN.out szJob rfl (by simp [Value.oneCell']) ?_; intro w9 hb9 hc9; have HB9 := Lib.hid hb9; have HC9 := Lib.hid hc9; clear hb9 hc9))
    refine bodyPost_ret (results_row_tmp rfl _ _ w.heap.size 60 #[.int .i64 0, .int .i64 0, .int .i64 0, .int .i64 0, .int .i64 0, .int .i64 0, .int .i64 0, .bool false] (0, 0) _ rfl HB9.out Tryd.underlying60 rfl szJob) rfl ?_
    exact ⟨rfl, HW1.out.into HC9.out (by simp)⟩
  | true =>
    obtain ⟨j, x, hn, hx, hjl, hg⟩ := hk.job hb
    rw [hg]
    obtain ⟨x0, x1, x2, x3, x4, x5, x6, x7⟩ := x
    have HJ := Lib.hid (job_any B db n s q i j _ (h.fresh HW1.out) hi hn hjl)
    have HF : Hid (∀ V g, Chg [] (w.alloc (.cells #[.int .i64 0, .int .i64 0, .int .i64 0, .int .i64 0, .int .i64 0, .int .i64 0, .int .i64 0, .bool false] 60)) V → q.aa = some ⟨g, 0, none⟩ → _) := Lib.hid (fun V g hV hq => (h.fresh (HW1.out.fresh hV)).job hq hx)
    rw [hb] at HH
    clear h hk hi hb hn hx hjl hg
    go_enter Tryd.func13, Tryd.ntmps13
    go_wp2_with (first | (go_at_call 31; refine HH.out.mono ?_; rintro e w' ⟨rfl, rfl⟩) | (go_at_call 32; refine HJ.out.mono ?_; rintro e w2 ⟨g, c, rfl, hq, -, hc2⟩; have HC2 := Lib.hid hc2; obtain ⟨⟨⟨y0, y1, y2, y3⟩, y4, y5, y6, y7⟩, -⟩ := HF.out w2 g hc2 hq; clear hc2 hq) | (refine Go.Proofs.YtfkokbeloenfdaaDoor.blk.wpList_store_blk rfl 60 (.tmp 4) (.tmp 15) rfl w.heap.size #[.int .i64 x0, .int .i64 x1, .int .i64 x2, .int .i64 x3, .int .i64 x4, .int .i64 x5, .int .i64 x6, .bool x7] rfl rfl (HBN.out.keep HC2.out (by simp)) szJob rfl (by simp [Value.oneCell']) ?_; intro w9 hb9 hc9; have HB9 := Lib.hid hb9; have HC9 := Lib.hid hc9; clear hb9 hc9))
    refine bodyPost_ret (results_row_tmp rfl _ _ w.heap.size 60 _ (0, 0) _ rfl HB9.out Tryd.underlying60 rfl szJob) rfl ?_
    exact ⟨rfl, (HW1.out.fresh HC2.out).into HC9.out (by simp)⟩
end Go.Proofs.YtfkokbeloenfdaaDoor.krn
