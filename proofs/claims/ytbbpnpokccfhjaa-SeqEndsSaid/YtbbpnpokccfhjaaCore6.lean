/- Package micro: a twin. -/
import Derived.Test.YtbbpnpokccfhjaaCore5
import Derived.Test.YtbbpnpokccfhjaaWhole
import Derived.Deep.Cut
namespace Go.Proofs.Ytbbpnpokccfhjaa.core
open Go Go.RowKit Go.Proofs.Ytbbpnpokccfhjaa.kit Go.Proofs.Ytbbpnpokccfhjaa.mem Go.Proofs.Ytbbpnpokccfhjaa.rop
set_option linter.unusedVariables false
set_option maxRecDepth 20000

theorem coreSize : (Try.prog.info? 71).map (·.size) = some 23 := by kernel_rfl
theorem cells_one (x : Core) (v : Value) (hm : x.m.oneCell' = true) (hv : v.oneCell' = true) : (x.cells v).all (·.oneCell') = true := by
  simp [Core.cells, Value.oneCell']
  exact ⟨hv, hm⟩
theorem blk_new1 (w : World) (z : Obj) (c : Array Value) (T : TypeId) : Blk ((w.alloc z).alloc (.cells c T)) (w.heap.size + 1) c T := by
  have := Blk.new (w.alloc z) c T
  have hs : (w.alloc z).heap.size = w.heap.size + 1 := by show (w.heap.push z).size = _; simp
  rwa [hs] at this
theorem own_ne {w w3 : World} {g : Nat} {c : Array Value} {T : TypeId} {e : TypeId} {s n : Nat} {v : Value} {xs : List Value} (h : w.ownsRow w3.heap.size e s v n xs) (hb : Blk w3 g c T) : ∀ b, v.ownBlock = some b → b ∉ [g] := by
  intro b hy
  have := hb.lt
  rcases h.2 with ⟨rfl, _⟩ | ⟨g', cap, cur, rfl, hbg, _⟩
  · cases hy
  · simp [Value.ownBlock] at hy
    simp
    omega
set_option maxHeartbeats 4000000 in
theorem Twin_any {T : TypeId} {bx mb : Nat} {sv v : Value} {W : World} {x : Core} {rec ws : List Int} {n : Int} (hm : x.m.oneCell' = true) (h : Pair T bx mb sv W x v rec ws n) :
    Calls Try.prog 71 #[.pointer (some ⟨bx, 0, none⟩)] W fun e W' => ∃ v', e = .returned (.agg (x.cells v')) ∧ OwnW W' W.heap.size v' rec ∧ Chg [] W W' := by
  have HP := Lib.hid h
  have HM := Lib.hid hm
  have HR := Lib.hid (OwnW.reads h.row h.wf)
  have HZ : Hid (rec.length ≤ 1000000) := Lib.hid (by have := h.short; omega)
  obtain ⟨ra, rcap, rfl, _⟩ := reads_slice HR.out.1
  clear h hm
  go_enter Try.func71, Try.ntmps71
  go_upto_region 1 with fail
  have HA := Lib.hid (((Chg.refl [] W).alloc (.cells #[.int .i64 0, .int .i64 0, .int .i64 0, .int .i64 0, .int .u32 0, .slice none 0 0, .int .i64 0, .slice none 0 0, .int .i64 0, .int .i64 0, .int .i64 0, .int .i64 0, .int .i64 0, .int .u32 0, .int .u32 0, .int .u64 0, .slice none 0 0, .pointer none, .int .i64 0, .int .i64 0, .int .i64 0, .int .i64 0, .bool false] 71)))
  go_wp2_with (first
    | (refine wpList_load_blk rfl 71 (.tmp 5) rfl bx rfl (HP.out.box.keep HA.out (by simp)) _ Try.underlying71 rfl coreSize ?_)
    | (refine wpList_store_blk rfl 71 (.tmp 3) (.tmp 6) rfl (W.heap.size + 1) (x.cells (.slice ra rec.length rcap)) rfl rfl (blk_new1 _ _ _ _) coreSize rfl (cells_one _ _ HM.out rfl) ?_; rintro W3 hb3 hc3; have HC3 : Hid (Chg [] W W3) := Lib.hid ((HA.out.alloc _).into hc3 (fun y hy => by simp at hy; right; omega)); have HB3 := Lib.hid hb3; have HZ3 := Lib.hid (((Blk.new W _ _).keep ((Chg.refl [] _).alloc _) (by simp)).keep hc3 (by simp)); clear hb3 hc3; have e16 : W3.cell? ⟨bx, 16, none⟩ = some (.slice ra rec.length rcap) := (HP.out.box.keep HC3.out (by simp)).cell rfl)
    | (go_at_call 84; refine (Clone_words _ _ _ (HR.out.chg HC3.out) HZ.out).mono ?_; rintro e w4 ⟨v4, rfl, ho4, hc4⟩; obtain ⟨a4, c4, rfl, _⟩ := reads_slice (Reads.of_own ho4 (by decide)); have HO4 := Lib.hid ho4; have HB4 := Lib.hid (HB3.out.keep hc4 (by simp)); have HZ4 := Lib.hid (HZ3.out.keep hc4 (by simp)); have HC4 := Lib.hid (HC3.out.trans hc4); have HL4 := Lib.hid HC3.out.size; clear ho4 hc4 e16; have e16 : w4.cell? ⟨W.heap.size + 1, 16, none⟩ = some (.slice ra rec.length rcap) := HB4.out.cell rfl; have f16 := HB4.out.free 16)
    | (refine wpList_load_blk rfl 71 (.tmp 3) rfl (W.heap.size + 1) rfl (HB4.out.set 16 (.slice a4 rec.length c4)) _ Try.underlying71 rfl coreSize ?_)
    | (refine wpList_store_blk rfl 71 (.tmp 2) (.tmp 13) rfl W.heap.size (x.cells (.slice a4 rec.length c4)) rfl rfl (Blk.set_ne HZ4.out (by omega) _ _ _) coreSize rfl (cells_one _ _ HM.out rfl) ?_; rintro W5 hb5 hc5; have HC5 : Hid (Chg [] W W5) := Lib.hid ((HC4.out.setCell (.inr (by simp)) _).into hc5 (fun y hy => by simp at hy; right; omega)); have HB5 := Lib.hid hb5; have HO5 := Lib.hid (mem.own_chg (mem.own_chg HO4.out ((Chg.refl [W.heap.size + 1] _).setCell (.inl (by simp)) (p := ⟨W.heap.size + 1, 16, none⟩) (.slice a4 rec.length c4)) (own_ne HO4.out HB3.out)) hc5 (own_ne HO4.out HZ3.out)); clear hb5 hc5))
  refine bodyPost_ret (v := .agg (x.cells (.slice a4 rec.length c4))) ?_ rfl ⟨_, rfl, own_base HO5.out HL4.out, HC5.out⟩
  exact results_cell_row rfl _ _ W.heap.size 71 _ (0, 0) _ rfl HB5.out Try.underlying71 rfl coreSize
end Go.Proofs.Ytbbpnpokccfhjaa.core
