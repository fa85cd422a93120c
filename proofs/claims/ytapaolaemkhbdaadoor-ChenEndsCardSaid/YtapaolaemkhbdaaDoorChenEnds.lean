/-
  coxswainlaw15.ChenEnds returns true for every c: any operation ends within its bound, whatever others do to its memory. No conditions.
-/
import Derived.Test.YtapaolaemkhbdaaDoorRows
import Derived.WalkKit
import Derived.ProofKit
import Derived.OpenShut
import Derived.ShutString
import Derived.ChangeOld
import Derived.Below
import Derived.Test.YtapaolaemkhbdaaDoorOpen
import Derived.Test.YtapaolaemkhbdaaDoorTab2
import Derived.Test.YtapaolaemkhbdaaDoorCards
import Derived.Test.YtapaolaemkhbdaaDoorTie
import Derived.SevenTiedAt
import Derived.Stop.Joined
import Derived.Test.YtapaolaemkhbdaaDoorChen4
import Derived.Test.YtapaolaemkhbdaaDoorDuo
import Derived.Test.YtapaolaemkhbdaaDoorObj3
namespace Go.Proofs.YtapaolaemkhbdaaDoor.chenEnds
open Go.ChangeShapes Go.WideShapes Go.ChangeAt Go.RowKit
open Go.ChangeMaps (open_string shut_string)
set_option linter.unusedVariables false
open Go.Proofs.YtapaolaemkhbdaaDoor.kit Go.Proofs.YtapaolaemkhbdaaDoor.obj Go.Proofs.YtapaolaemkhbdaaDoor.mem Go.Proofs.YtapaolaemkhbdaaDoor.core
set_option linter.unusedSimpArgs false
set_option maxRecDepth 100000
/-- the table lies where it was laid, wherever an operation goes on whose blocks are new -/
theorem tabs {T : TypeId} {bx mb : Nat} {sv r0 : Value} {W0 B : World} (hT : bitm.Tab B) (hc : Chg [] B W0) (h1 : B.heap.size ≤ bx) (h2 : B.heap.size ≤ mb) (h3 : ∀ y, sv.ownBlock = some y → B.heap.size ≤ y) (h4 : ∀ y, r0.ownBlock = some y → B.heap.size ≤ y) :
    ∀ V x' rec' ws' n', St T bx mb sv W0 r0 V x' rec' ws' n' → bitm.Tab V := by
  have hp := hT.pos
  exact St.tab (hT.keep hc) (by omega) (by omega) (fun hh => by have := h3 0 hh; omega) (fun hh => by have := h4 0 hh; omega)
set_option maxHeartbeats 4000000 in
theorem big (k w s c st : Int) (ia : Option Addr) (il ic : Nat) (wri : Int) (ra : Option Addr) (rl rc : Nat) (at_ op rd_ : Int) (qa : Option Addr) (ql qc : Nat) (la : Option Addr) (ll lc : Nat) (pa : Option Addr) (pl pc : Nat) (hl : lightB il rl ql ll pl = false) (W : World) (hT : bitm.Tab W) :
    Calls Tryd.prog 7 #[.agg #[.int .i64 k, .int .i64 w, .int .i64 s, .int .i64 c, .int .u32 st, .slice ia il ic, .int .i64 wri, .slice ra rl rc, .int .i64 at_, .int .i64 op, .int .i64 rd_, .slice qa ql qc, .slice la ll lc, .slice pa pl pc]] W fun e W' => e = .returned (.bool true) ∧ Below W.heap.size W W' := by
  have HL := Lib.hid hl
  clear hl
  have HBX : Hid (Blk (W.alloc (.cells #[.int .i64 k, .int .i64 w, .int .i64 s, .int .i64 c, .int .u32 st, .slice ia il ic, .int .i64 wri, .slice ra rl rc, .int .i64 at_, .int .i64 op, .int .i64 rd_, .slice qa ql qc, .slice la ll lc, .slice pa pl pc] 36)) W.heap.size #[.int .i64 k, .int .i64 w, .int .i64 s, .int .i64 c, .int .u32 st, .slice ia il ic, .int .i64 wri, .slice ra rl rc, .int .i64 at_, .int .i64 op, .int .i64 rd_, .slice qa ql qc, .slice la ll lc, .slice pa pl pc] 36) := Lib.hid (Blk.new W _ _)
  have HCA : Hid (Chg [] W (W.alloc (.cells #[.int .i64 k, .int .i64 w, .int .i64 s, .int .i64 c, .int .u32 st, .slice ia il ic, .int .i64 wri, .slice ra rl rc, .int .i64 at_, .int .i64 op, .int .i64 rd_, .slice qa ql qc, .slice la ll lc, .slice pa pl pc] 36))) := Lib.hid ((Chg.refl _ _).alloc _)
  have HTA : Hid (bitm.Tab (W.alloc (.cells #[.int .i64 k, .int .i64 w, .int .i64 s, .int .i64 c, .int .u32 st, .slice ia il ic, .int .i64 wri, .slice ra rl rc, .int .i64 at_, .int .i64 op, .int .i64 rd_, .slice qa ql qc, .slice la ll lc, .slice pa pl pc] 36))) := Lib.hid (hT.keep HCA.out)
  clear hT
  have HCC : Hid (Chg [] (W.alloc (.cells #[.int .i64 k, .int .i64 w, .int .i64 s, .int .i64 c, .int .u32 st, .slice ia il ic, .int .i64 wri, .slice ra rl rc, .int .i64 at_, .int .i64 op, .int .i64 rd_, .slice qa ql qc, .slice la ll lc, .slice pa pl pc] 36)) (W.alloc (.cells #[.int .i64 k, .int .i64 w, .int .i64 s, .int .i64 c, .int .u32 st, .slice ia il ic, .int .i64 wri, .slice ra rl rc, .int .i64 at_, .int .i64 op, .int .i64 rd_, .slice qa ql qc, .slice la ll lc, .slice pa pl pc] 36))) := Lib.hid (Chg.refl _ _)
  go_enter Tryd.func7, Tryd.ntmps7
  go_wp2_with (first | (go_at_call 29; refine (Light_any k w s c st ia il ic wri ra rl rc at_ op rd_ qa ql qc la ll lc pa pl pc _).mono ?_; rintro e wx ⟨rfl, hcx⟩; rw [HL.out]; have HCC := Lib.hid (HCC.out.trans hcx); have HBX := Lib.hid (HBX.out.keep hcx (by simp)); clear hcx; have e0 : wx.cell? ⟨W.heap.size, 0, none⟩ = some (.int .i64 k) := HBX.out.cell rfl; have e1 : wx.cell? ⟨W.heap.size, 1, none⟩ = some (.int .i64 w) := HBX.out.cell rfl; have e2 : wx.cell? ⟨W.heap.size, 2, none⟩ = some (.int .i64 s) := HBX.out.cell rfl; have e3 : wx.cell? ⟨W.heap.size, 3, none⟩ = some (.int .i64 c) := HBX.out.cell rfl; have e4 : wx.cell? ⟨W.heap.size, 4, none⟩ = some (.int .u32 st) := HBX.out.cell rfl; have e5 : wx.cell? ⟨W.heap.size, 5, none⟩ = some (.slice ia il ic) := HBX.out.cell rfl; have e6 : wx.cell? ⟨W.heap.size, 6, none⟩ = some (.int .i64 wri) := HBX.out.cell rfl; have e7 : wx.cell? ⟨W.heap.size, 7, none⟩ = some (.slice ra rl rc) := HBX.out.cell rfl; have e8 : wx.cell? ⟨W.heap.size, 8, none⟩ = some (.int .i64 at_) := HBX.out.cell rfl; have e9 : wx.cell? ⟨W.heap.size, 9, none⟩ = some (.int .i64 op) := HBX.out.cell rfl; have e10 : wx.cell? ⟨W.heap.size, 10, none⟩ = some (.int .i64 rd_) := HBX.out.cell rfl; have e11 : wx.cell? ⟨W.heap.size, 11, none⟩ = some (.slice qa ql qc) := HBX.out.cell rfl; have e12 : wx.cell? ⟨W.heap.size, 12, none⟩ = some (.slice la ll lc) := HBX.out.cell rfl; have e13 : wx.cell? ⟨W.heap.size, 13, none⟩ = some (.slice pa pl pc) := HBX.out.cell rfl) | (go_at_call 24; refine (chen.awake_any _ (HTA.out.keep HCC.out)).mono ?_; rintro e wz ⟨rfl, hcz⟩; have HZ := Lib.hid hcz; clear hcz))
  go_ret
  exact ⟨rfl, (HCA.out.trans (HCC.out.trans HZ.out)).below⟩

set_option maxHeartbeats 8000000 in
theorem none_ (k w s c st : Int) (ia : Option Addr) (il ic : Nat) (wri : Int) (ra : Option Addr) (rl rc : Nat) (at_ op rd_ : Int) (qa : Option Addr) (ql qc : Nat) (la : Option Addr) (ll lc : Nat) (pa : Option Addr) (pl pc : Nat) (rec : List Int) (sz : Int) (hl : lightB il rl ql ll pl = true) (hsz : ∀ V, Calls Tryd.prog 26 #[.agg #[.int .i64 k, .int .i64 w, .int .i64 s, .int .i64 c, .int .u32 st, .slice ia il ic, .int .i64 wri, .slice ra rl rc]] V fun e W' => e = .returned (.int .i64 sz) ∧ Chg [] V W')
    (hb : begI w rl sz at_ op rd_ 2 1 rec.length ≠ 0) (W : World) (hT : bitm.Tab W) (hrec : ReadsW W (.slice qa ql qc) rec) (hrl : rec.length ≤ 1000) :
    Calls Tryd.prog 7 #[.agg #[.int .i64 k, .int .i64 w, .int .i64 s, .int .i64 c, .int .u32 st, .slice ia il ic, .int .i64 wri, .slice ra rl rc, .int .i64 at_, .int .i64 op, .int .i64 rd_, .slice qa ql qc, .slice la ll lc, .slice pa pl pc]] W fun e W' => e = .returned (.bool true) ∧ Below W.heap.size W W' := by
  obtain ⟨E, hE⟩ : ∃ E, begI w rl sz at_ op rd_ 2 1 rec.length = E := ⟨_, rfl⟩
  have HBG : Hid (∀ V (hv : ReadsW V (.slice qa ql qc) rec), Calls Tryd.prog 38 #[.agg #[.int .i64 k, .int .i64 w, .int .i64 s, .int .i64 c, .int .u32 st, .slice ia il ic, .int .i64 wri, .slice ra rl rc], .int .i64 at_, .int .i64 op, .int .i64 rd_, .slice qa ql qc] V fun e W' => e = .returned (.tuple #[.pointer none, .int .i64 E]) ∧ Chg [] V W') :=
    Lib.hid (fun V hv => by rw [← hE]; exact chen.Begin_no k w s c st ia il ic wri ra rl rc at_ op rd_ sz _ rec V hv hrl hsz hb)
  rw [hE] at hb
  have hb1 : (E == 0) = false := by simpa using hb
  have hb2 : (E != 0) = true := by simpa using hb
  have HL := Lib.hid hl
  have HREC := Lib.hid hrec
  clear hl hsz hb hE hrec hrl
  have HBX : Hid (Blk (W.alloc (.cells #[.int .i64 k, .int .i64 w, .int .i64 s, .int .i64 c, .int .u32 st, .slice ia il ic, .int .i64 wri, .slice ra rl rc, .int .i64 at_, .int .i64 op, .int .i64 rd_, .slice qa ql qc, .slice la ll lc, .slice pa pl pc] 36)) W.heap.size #[.int .i64 k, .int .i64 w, .int .i64 s, .int .i64 c, .int .u32 st, .slice ia il ic, .int .i64 wri, .slice ra rl rc, .int .i64 at_, .int .i64 op, .int .i64 rd_, .slice qa ql qc, .slice la ll lc, .slice pa pl pc] 36) := Lib.hid (Blk.new W _ _)
  have HCA : Hid (Chg [] W (W.alloc (.cells #[.int .i64 k, .int .i64 w, .int .i64 s, .int .i64 c, .int .u32 st, .slice ia il ic, .int .i64 wri, .slice ra rl rc, .int .i64 at_, .int .i64 op, .int .i64 rd_, .slice qa ql qc, .slice la ll lc, .slice pa pl pc] 36))) := Lib.hid ((Chg.refl _ _).alloc _)
  have HTA : Hid (bitm.Tab (W.alloc (.cells #[.int .i64 k, .int .i64 w, .int .i64 s, .int .i64 c, .int .u32 st, .slice ia il ic, .int .i64 wri, .slice ra rl rc, .int .i64 at_, .int .i64 op, .int .i64 rd_, .slice qa ql qc, .slice la ll lc, .slice pa pl pc] 36))) := Lib.hid (hT.keep HCA.out)
  clear hT
  have HCC : Hid (Chg [] (W.alloc (.cells #[.int .i64 k, .int .i64 w, .int .i64 s, .int .i64 c, .int .u32 st, .slice ia il ic, .int .i64 wri, .slice ra rl rc, .int .i64 at_, .int .i64 op, .int .i64 rd_, .slice qa ql qc, .slice la ll lc, .slice pa pl pc] 36)) (W.alloc (.cells #[.int .i64 k, .int .i64 w, .int .i64 s, .int .i64 c, .int .u32 st, .slice ia il ic, .int .i64 wri, .slice ra rl rc, .int .i64 at_, .int .i64 op, .int .i64 rd_, .slice qa ql qc, .slice la ll lc, .slice pa pl pc] 36))) := Lib.hid (Chg.refl _ _)
  go_enter Tryd.func7, Tryd.ntmps7
  go_wp2_with (first | (go_at_call 29; refine (Light_any k w s c st ia il ic wri ra rl rc at_ op rd_ qa ql qc la ll lc pa pl pc _).mono ?_; rintro e wx ⟨rfl, hcx⟩; rw [HL.out]; have HCC := Lib.hid (HCC.out.trans hcx); have HBX := Lib.hid (HBX.out.keep hcx (by simp)); clear hcx; have e0 : wx.cell? ⟨W.heap.size, 0, none⟩ = some (.int .i64 k) := HBX.out.cell rfl; have e1 : wx.cell? ⟨W.heap.size, 1, none⟩ = some (.int .i64 w) := HBX.out.cell rfl; have e2 : wx.cell? ⟨W.heap.size, 2, none⟩ = some (.int .i64 s) := HBX.out.cell rfl; have e3 : wx.cell? ⟨W.heap.size, 3, none⟩ = some (.int .i64 c) := HBX.out.cell rfl; have e4 : wx.cell? ⟨W.heap.size, 4, none⟩ = some (.int .u32 st) := HBX.out.cell rfl; have e5 : wx.cell? ⟨W.heap.size, 5, none⟩ = some (.slice ia il ic) := HBX.out.cell rfl; have e6 : wx.cell? ⟨W.heap.size, 6, none⟩ = some (.int .i64 wri) := HBX.out.cell rfl; have e7 : wx.cell? ⟨W.heap.size, 7, none⟩ = some (.slice ra rl rc) := HBX.out.cell rfl; have e8 : wx.cell? ⟨W.heap.size, 8, none⟩ = some (.int .i64 at_) := HBX.out.cell rfl; have e9 : wx.cell? ⟨W.heap.size, 9, none⟩ = some (.int .i64 op) := HBX.out.cell rfl; have e10 : wx.cell? ⟨W.heap.size, 10, none⟩ = some (.int .i64 rd_) := HBX.out.cell rfl; have e11 : wx.cell? ⟨W.heap.size, 11, none⟩ = some (.slice qa ql qc) := HBX.out.cell rfl; have e12 : wx.cell? ⟨W.heap.size, 12, none⟩ = some (.slice la ll lc) := HBX.out.cell rfl; have e13 : wx.cell? ⟨W.heap.size, 13, none⟩ = some (.slice pa pl pc) := HBX.out.cell rfl) | (go_at_call 38; refine (HBG.out _ (HREC.out.chg (HCA.out.trans HCC.out))).mono ?_; rintro e wb ⟨rfl, hcx⟩; have HCC := Lib.hid (HCC.out.trans hcx); have HBX := Lib.hid (HBX.out.keep hcx (by simp)); clear hcx e0 e1 e2 e3 e4 e5 e6 e7 e8 e9 e10 e11 e12 e13; have e0 : wb.cell? ⟨W.heap.size, 0, none⟩ = some (.int .i64 k) := HBX.out.cell rfl; have e1 : wb.cell? ⟨W.heap.size, 1, none⟩ = some (.int .i64 w) := HBX.out.cell rfl; have e2 : wb.cell? ⟨W.heap.size, 2, none⟩ = some (.int .i64 s) := HBX.out.cell rfl; have e3 : wb.cell? ⟨W.heap.size, 3, none⟩ = some (.int .i64 c) := HBX.out.cell rfl; have e4 : wb.cell? ⟨W.heap.size, 4, none⟩ = some (.int .u32 st) := HBX.out.cell rfl; have e5 : wb.cell? ⟨W.heap.size, 5, none⟩ = some (.slice ia il ic) := HBX.out.cell rfl; have e6 : wb.cell? ⟨W.heap.size, 6, none⟩ = some (.int .i64 wri) := HBX.out.cell rfl; have e7 : wb.cell? ⟨W.heap.size, 7, none⟩ = some (.slice ra rl rc) := HBX.out.cell rfl; have e8 : wb.cell? ⟨W.heap.size, 8, none⟩ = some (.int .i64 at_) := HBX.out.cell rfl; have e9 : wb.cell? ⟨W.heap.size, 9, none⟩ = some (.int .i64 op) := HBX.out.cell rfl; have e10 : wb.cell? ⟨W.heap.size, 10, none⟩ = some (.int .i64 rd_) := HBX.out.cell rfl; have e11 : wb.cell? ⟨W.heap.size, 11, none⟩ = some (.slice qa ql qc) := HBX.out.cell rfl; have e12 : wb.cell? ⟨W.heap.size, 12, none⟩ = some (.slice la ll lc) := HBX.out.cell rfl; have e13 : wb.cell? ⟨W.heap.size, 13, none⟩ = some (.slice pa pl pc) := HBX.out.cell rfl))
  refine rop.code_gen (R := fun V => Hid (Blk V W.heap.size #[.int .i64 k, .int .i64 w, .int .i64 s, .int .i64 c, .int .u32 st, .slice ia il ic, .int .i64 wri, .slice ra rl rc, .int .i64 at_, .int .i64 op, .int .i64 rd_, .slice qa ql qc, .slice la ll lc, .slice pa pl pc] 36) ∧ Hid (Chg [] (W.alloc (.cells #[.int .i64 k, .int .i64 w, .int .i64 s, .int .i64 c, .int .u32 st, .slice ia il ic, .int .i64 wri, .slice ra rl rc, .int .i64 at_, .int .i64 op, .int .i64 rd_, .slice qa ql qc, .slice la ll lc, .slice pa pl pc] 36)) V)) ⟨HBX, HCC⟩ ?_
  clear HBX HCC e0 e1 e2 e3 e4 e5 e6 e7 e8 e9 e10 e11 e12 e13
  rintro W1 ⟨HBX, HCC⟩
  have eS0 : W1.cell? ⟨W.heap.size, 0, none⟩ = some (.int .i64 k) := HBX.out.cell rfl
  have eS1 : W1.cell? ⟨W.heap.size, 1, none⟩ = some (.int .i64 w) := HBX.out.cell rfl
  have eS2 : W1.cell? ⟨W.heap.size, 2, none⟩ = some (.int .i64 s) := HBX.out.cell rfl
  have eS3 : W1.cell? ⟨W.heap.size, 3, none⟩ = some (.int .i64 c) := HBX.out.cell rfl
  have eS4 : W1.cell? ⟨W.heap.size, 4, none⟩ = some (.int .u32 st) := HBX.out.cell rfl
  have eS5 : W1.cell? ⟨W.heap.size, 5, none⟩ = some (.slice ia il ic) := HBX.out.cell rfl
  have eS6 : W1.cell? ⟨W.heap.size, 6, none⟩ = some (.int .i64 wri) := HBX.out.cell rfl
  have eS7 : W1.cell? ⟨W.heap.size, 7, none⟩ = some (.slice ra rl rc) := HBX.out.cell rfl
  have eS8 : W1.cell? ⟨W.heap.size, 8, none⟩ = some (.int .i64 at_) := HBX.out.cell rfl
  have eS9 : W1.cell? ⟨W.heap.size, 9, none⟩ = some (.int .i64 op) := HBX.out.cell rfl
  have eS10 : W1.cell? ⟨W.heap.size, 10, none⟩ = some (.int .i64 rd_) := HBX.out.cell rfl
  have eS11 : W1.cell? ⟨W.heap.size, 11, none⟩ = some (.slice qa ql qc) := HBX.out.cell rfl
  have eS12 : W1.cell? ⟨W.heap.size, 12, none⟩ = some (.slice la ll lc) := HBX.out.cell rfl
  have eS13 : W1.cell? ⟨W.heap.size, 13, none⟩ = some (.slice pa pl pc) := HBX.out.cell rfl
  have KEEP := Lib.hid (fun (V : World) (h : Chg [] W1 V) => (⟨h.keep eS0 (by simp), h.keep eS1 (by simp), h.keep eS2 (by simp), h.keep eS3 (by simp), h.keep eS4 (by simp), h.keep eS5 (by simp), h.keep eS6 (by simp), h.keep eS7 (by simp), h.keep eS8 (by simp), h.keep eS9 (by simp), h.keep eS10 (by simp), h.keep eS11 (by simp), h.keep eS12 (by simp), h.keep eS13 (by simp), Lib.hid h⟩ : (fun V : World => V.cell? ⟨W.heap.size, 0, none⟩ = some (.int .i64 k) ∧ V.cell? ⟨W.heap.size, 1, none⟩ = some (.int .i64 w) ∧ V.cell? ⟨W.heap.size, 2, none⟩ = some (.int .i64 s) ∧ V.cell? ⟨W.heap.size, 3, none⟩ = some (.int .i64 c) ∧ V.cell? ⟨W.heap.size, 4, none⟩ = some (.int .u32 st) ∧ V.cell? ⟨W.heap.size, 5, none⟩ = some (.slice ia il ic) ∧ V.cell? ⟨W.heap.size, 6, none⟩ = some (.int .i64 wri) ∧ V.cell? ⟨W.heap.size, 7, none⟩ = some (.slice ra rl rc) ∧ V.cell? ⟨W.heap.size, 8, none⟩ = some (.int .i64 at_) ∧ V.cell? ⟨W.heap.size, 9, none⟩ = some (.int .i64 op) ∧ V.cell? ⟨W.heap.size, 10, none⟩ = some (.int .i64 rd_) ∧ V.cell? ⟨W.heap.size, 11, none⟩ = some (.slice qa ql qc) ∧ V.cell? ⟨W.heap.size, 12, none⟩ = some (.slice la ll lc) ∧ V.cell? ⟨W.heap.size, 13, none⟩ = some (.slice pa pl pc) ∧ Hid (Chg [] W1 V)) V))
  clear eS0 eS1 eS2 eS3 eS4 eS5 eS6 eS7 eS8 eS9 eS10 eS11 eS12 eS13
  have hHeld : (fun V : World => V.cell? ⟨W.heap.size, 0, none⟩ = some (.int .i64 k) ∧ V.cell? ⟨W.heap.size, 1, none⟩ = some (.int .i64 w) ∧ V.cell? ⟨W.heap.size, 2, none⟩ = some (.int .i64 s) ∧ V.cell? ⟨W.heap.size, 3, none⟩ = some (.int .i64 c) ∧ V.cell? ⟨W.heap.size, 4, none⟩ = some (.int .u32 st) ∧ V.cell? ⟨W.heap.size, 5, none⟩ = some (.slice ia il ic) ∧ V.cell? ⟨W.heap.size, 6, none⟩ = some (.int .i64 wri) ∧ V.cell? ⟨W.heap.size, 7, none⟩ = some (.slice ra rl rc) ∧ V.cell? ⟨W.heap.size, 8, none⟩ = some (.int .i64 at_) ∧ V.cell? ⟨W.heap.size, 9, none⟩ = some (.int .i64 op) ∧ V.cell? ⟨W.heap.size, 10, none⟩ = some (.int .i64 rd_) ∧ V.cell? ⟨W.heap.size, 11, none⟩ = some (.slice qa ql qc) ∧ V.cell? ⟨W.heap.size, 12, none⟩ = some (.slice la ll lc) ∧ V.cell? ⟨W.heap.size, 13, none⟩ = some (.slice pa pl pc) ∧ Hid (Chg [] W1 V)) (World.drew W1) := KEEP.out _ (Chg.refl _ _).drew
  refine wp_region_plan (fun V : World => V.cell? ⟨W.heap.size, 0, none⟩ = some (.int .i64 k) ∧ V.cell? ⟨W.heap.size, 1, none⟩ = some (.int .i64 w) ∧ V.cell? ⟨W.heap.size, 2, none⟩ = some (.int .i64 s) ∧ V.cell? ⟨W.heap.size, 3, none⟩ = some (.int .i64 c) ∧ V.cell? ⟨W.heap.size, 4, none⟩ = some (.int .u32 st) ∧ V.cell? ⟨W.heap.size, 5, none⟩ = some (.slice ia il ic) ∧ V.cell? ⟨W.heap.size, 6, none⟩ = some (.int .i64 wri) ∧ V.cell? ⟨W.heap.size, 7, none⟩ = some (.slice ra rl rc) ∧ V.cell? ⟨W.heap.size, 8, none⟩ = some (.int .i64 at_) ∧ V.cell? ⟨W.heap.size, 9, none⟩ = some (.int .i64 op) ∧ V.cell? ⟨W.heap.size, 10, none⟩ = some (.int .i64 rd_) ∧ V.cell? ⟨W.heap.size, 11, none⟩ = some (.slice qa ql qc) ∧ V.cell? ⟨W.heap.size, 12, none⟩ = some (.slice la ll lc) ∧ V.cell? ⟨W.heap.size, 13, none⟩ = some (.slice pa pl pc) ∧ Hid (Chg [] W1 V)) [(0, true, some 27), (1, true, some 28), (2, true, some 29), (3, true, some 30), (4, true, some 31), (5, true, some 32), (6, true, some 33), (7, true, some 34), (8, true, some 35), (9, true, some 36), (10, true, some 37), (11, true, some 38), (12, true, some 39), (13, true, some 40), (14, true, some 41), (15, true, some 42), (16, true, some 43), (18, true, some 45), (19, true, some 46), (20, true, some 47), (21, true, some 48), (22, true, some 49), (23, true, some 50), (17, false, some 44), (24, true, some 51), (25, true, some 52)] (by kernel_rfl) (by kernel_rfl) (by kernel_rfl) (by kernel_rfl) (fun d c a v w h => by cases d <;> exact h) hHeld ?_
  repeat (first
    | (refine planWp_read (v := ?_) rfl rfl ?_ ?_ ?_; rotate_left; (focus rfl); (focus (intro u hSw; (try dsimp only at hSw); go_simp; (try with_reducible rfl))); (try simp only [Act.put, List.setIfInBounds_toArray, List.set_cons_zero, List.set_cons_succ]))
    | (refine planWp_skip rfl rfl ?_ ?_; (focus rfl); (try simp only [Act.put, List.setIfInBounds_toArray, List.set_cons_zero, List.set_cons_succ]))
    | (refine planWp_leave rfl rfl ?_ hHeld ?_; (focus rfl); (try simp only [Act.put, List.setIfInBounds_toArray, List.set_cons_zero, List.set_cons_succ]))
    | (refine planWp_do rfl rfl ?_ (fun K hK => ?_); (focus rfl); go_simp; (try go_wp2_with fail); refine hK.out _ _ ?_ (fun hHeld2 => ?_); (focus (exact KEEP.out _ (Chg.trans hHeld.2.2.2.2.2.2.2.2.2.2.2.2.2.2.out HCX.out))); clear hK K hHeld; have hHeld := hHeld2; clear hHeld2; (try simp only [Act.put, List.setIfInBounds_toArray, List.set_cons_zero, List.set_cons_succ])))
  refine planWp_nil ?_
  have HR4 := Lib.hid hHeld.2.2.2.2.2.2.2.2.2.2.2.2.2.2.out
  clear hHeld KEEP
  go_wp2_with (go_at_call 24; refine (chen.awake_any _ (HTA.out.keep (HCC.out.trans HR4.out))).mono ?_; rintro e wz ⟨rfl, hcz⟩; have HZ := Lib.hid hcz; clear hcz)
  go_ret
  exact ⟨rfl, (HCA.out.trans ((HCC.out.trans HR4.out).trans HZ.out)).below⟩

/-- what is known of an operation that was begun -/
structure Given (k w s c st : Int) (ia : Option Addr) (il ic : Nat) (wri : Int) (ra : Option Addr) (rl rc : Nat) (at_ op rd_ : Int) (qa : Option Addr) (ql qc : Nat) (la : Option Addr) (ll lc : Nat) (pa : Option Addr) (pl pc : Nat) (N wN : Nat) (rec l : List Int) (ps : List Poke) (W : World) : Prop where
  light : lightB il rl ql ll pl = true
  obj : ObjW k w s c st il rl
  right : (decide (k = 2) && rightB k w s c st il rl) = true
  hwN : w = (wN : Int)
  hN : N = 1 + rl + (((rl : Int) + 2) * w).toNat
  beg : begI w rl (N : Int) at_ op rd_ 2 1 rec.length = 0
  hrec : ReadsW W (.slice qa ql qc) rec
  hl : ReadsW W (.slice la ll lc) l
  hps : ReadsP W (.slice pa pl pc) ps
  at64 : -9223372036854775808 ≤ at_ ∧ at_ ≤ 9223372036854775807
theorem Given.spec {k w s c st : Int} {ia : Option Addr} {il ic : Nat} {wri : Int} {ra : Option Addr} {rl rc : Nat} {at_ op rd_ : Int} {qa : Option Addr} {ql qc : Nat} {la : Option Addr} {ll lc : Nat} {pa : Option Addr} {pl pc : Nat} {N wN : Nat} {rec l : List Int} {ps : List Poke} {W : World} (h : Given k w s c st ia il ic wri ra rl rc at_ op rd_ qa ql qc la ll lc pa pl pc N wN rec l ps W) :
    rec.length ≤ 1000 ∧ ll = l.length ∧ l.length ≤ 400 ∧ pl ≤ 100 ∧ 0 ≤ at_ ∧ 1 ≤ wN ∧ wN ≤ 8 ∧ (op = 2 ∧ rec.length = wN ∨ op = 1 ∧ rec.length = 0) := by
  have hl := h.light
  simp only [lightB, Bool.and_eq_true, decide_eq_true_eq] at hl
  have hr := h.right
  simp only [Bool.and_eq_true] at hr
  have hbd := rightB_bd hr.2
  have hw := h.hwN
  have e1 : ll = l.length := by obtain ⟨_, _, he, _⟩ := reads_slice h.hl.1; simp at he; exact he.2.1
  have e2 : ql = rec.length := by obtain ⟨_, _, he, _⟩ := reads_slice h.hrec.1; simp at he; exact he.2.1
  have hb := h.beg
  unfold begI at hb
  split at hb
  · omega
  · split at hb
    · split at hb
      · omega
      · split at hb <;> omega
    · split at hb
      · split at hb
        · omega
        · split at hb <;> omega
      · omega

set_option maxHeartbeats 8000000 in
theorem short (k w s c st : Int) (ia : Option Addr) (il ic : Nat) (wri : Int) (ra : Option Addr) (rl rc : Nat) (at_ op rd_ : Int) (qa : Option Addr) (ql qc : Nat) (la : Option Addr) (ll lc : Nat) (pa : Option Addr) (pl pc : Nat) (N wN : Nat) (rec l : List Int) (ps : List Poke) (W : World) (hT : bitm.Tab W) (h : Given k w s c st ia il ic wri ra rl rc at_ op rd_ qa ql qc la ll lc pa pl pc N wN rec l ps W) (hfit : (ll : Int) < at_ ∨ (ll : Int) - at_ < (N : Int)) :
    Calls Tryd.prog 7 #[.agg #[.int .i64 k, .int .i64 w, .int .i64 s, .int .i64 c, .int .u32 st, .slice ia il ic, .int .i64 wri, .slice ra rl rc, .int .i64 at_, .int .i64 op, .int .i64 rd_, .slice qa ql qc, .slice la ll lc, .slice pa pl pc]] W fun e W' => e = .returned (.bool true) ∧ Below W.heap.size W W' := by
  have hsp := h.spec
  have HSP := Lib.hid hsp
  have HG := Lib.hid h
  have HL := Lib.hid h.light
  have HREC := Lib.hid h.hrec
  have HRL : Hid (rec.length ≤ 1000) := Lib.hid hsp.1
  have HLR := Lib.hid h.hl
  have HSZ : Hid (∀ V, Calls Tryd.prog 26 #[.agg #[.int .i64 k, .int .i64 w, .int .i64 s, .int .i64 c, .int .u32 st, .slice ia il ic, .int .i64 wri, .slice ra rl rc]] V fun e W' => e = .returned (.int .i64 (N : Int)) ∧ Chg [] V W') := Lib.hid (fun V => by rw [h.hN]; exact chen.Size_yes k w s c st ia il ic wri ra rl rc wN h.hwN h.obj h.right V)
  have HBG := Lib.hid h.beg
  have HFIT := Lib.hid hfit
  have hN : N = 1 + rl + (((rl : Int) + 2) * w).toNat := h.hN
  have HNN := Lib.hid hN
  have key : ∀ bA bB, decide ((ll : Int) < at_) = bA → decide ((ll : Int) - at_ < (N : Int)) = bB → (bA || bB) = true → Calls Tryd.prog 7 #[.agg #[.int .i64 k, .int .i64 w, .int .i64 s, .int .i64 c, .int .u32 st, .slice ia il ic, .int .i64 wri, .slice ra rl rc, .int .i64 at_, .int .i64 op, .int .i64 rd_, .slice qa ql qc, .slice la ll lc, .slice pa pl pc]] W fun e W' => e = .returned (.bool true) ∧ Below W.heap.size W W' := by
    intro bA bB hA hB hAB
    have hw : IntKind.i64.wrap ((ll : Int) - at_) = (ll : Int) - at_ := by have := h.at64; rw [IntKind.wrap_i64]; omega
    clear h hsp hfit hN
    cases bA
    · cases bB
      · cases hAB
      · clear hAB
        have HBX : Hid (Blk (W.alloc (.cells #[.int .i64 k, .int .i64 w, .int .i64 s, .int .i64 c, .int .u32 st, .slice ia il ic, .int .i64 wri, .slice ra rl rc, .int .i64 at_, .int .i64 op, .int .i64 rd_, .slice qa ql qc, .slice la ll lc, .slice pa pl pc] 36)) W.heap.size #[.int .i64 k, .int .i64 w, .int .i64 s, .int .i64 c, .int .u32 st, .slice ia il ic, .int .i64 wri, .slice ra rl rc, .int .i64 at_, .int .i64 op, .int .i64 rd_, .slice qa ql qc, .slice la ll lc, .slice pa pl pc] 36) := Lib.hid (Blk.new W _ _)
        have HCA : Hid (Chg [] W (W.alloc (.cells #[.int .i64 k, .int .i64 w, .int .i64 s, .int .i64 c, .int .u32 st, .slice ia il ic, .int .i64 wri, .slice ra rl rc, .int .i64 at_, .int .i64 op, .int .i64 rd_, .slice qa ql qc, .slice la ll lc, .slice pa pl pc] 36))) := Lib.hid ((Chg.refl _ _).alloc _)
        have HTA : Hid (bitm.Tab (W.alloc (.cells #[.int .i64 k, .int .i64 w, .int .i64 s, .int .i64 c, .int .u32 st, .slice ia il ic, .int .i64 wri, .slice ra rl rc, .int .i64 at_, .int .i64 op, .int .i64 rd_, .slice qa ql qc, .slice la ll lc, .slice pa pl pc] 36))) := Lib.hid (hT.keep HCA.out)
        clear hT
        have HCC : Hid (Chg [] (W.alloc (.cells #[.int .i64 k, .int .i64 w, .int .i64 s, .int .i64 c, .int .u32 st, .slice ia il ic, .int .i64 wri, .slice ra rl rc, .int .i64 at_, .int .i64 op, .int .i64 rd_, .slice qa ql qc, .slice la ll lc, .slice pa pl pc] 36)) (W.alloc (.cells #[.int .i64 k, .int .i64 w, .int .i64 s, .int .i64 c, .int .u32 st, .slice ia il ic, .int .i64 wri, .slice ra rl rc, .int .i64 at_, .int .i64 op, .int .i64 rd_, .slice qa ql qc, .slice la ll lc, .slice pa pl pc] 36))) := Lib.hid (Chg.refl _ _)
        go_enter Tryd.func7, Tryd.ntmps7
        go_wp2_with (first | (go_at_call 29; refine (Light_any k w s c st ia il ic wri ra rl rc at_ op rd_ qa ql qc la ll lc pa pl pc _).mono ?_; rintro e wx ⟨rfl, hcx⟩; rw [HL.out]; have HCC := Lib.hid (HCC.out.trans hcx); have HBX := Lib.hid (HBX.out.keep hcx (by simp)); clear hcx; have e0 : wx.cell? ⟨W.heap.size, 0, none⟩ = some (.int .i64 k) := HBX.out.cell rfl; have e1 : wx.cell? ⟨W.heap.size, 1, none⟩ = some (.int .i64 w) := HBX.out.cell rfl; have e2 : wx.cell? ⟨W.heap.size, 2, none⟩ = some (.int .i64 s) := HBX.out.cell rfl; have e3 : wx.cell? ⟨W.heap.size, 3, none⟩ = some (.int .i64 c) := HBX.out.cell rfl; have e4 : wx.cell? ⟨W.heap.size, 4, none⟩ = some (.int .u32 st) := HBX.out.cell rfl; have e5 : wx.cell? ⟨W.heap.size, 5, none⟩ = some (.slice ia il ic) := HBX.out.cell rfl; have e6 : wx.cell? ⟨W.heap.size, 6, none⟩ = some (.int .i64 wri) := HBX.out.cell rfl; have e7 : wx.cell? ⟨W.heap.size, 7, none⟩ = some (.slice ra rl rc) := HBX.out.cell rfl; have e8 : wx.cell? ⟨W.heap.size, 8, none⟩ = some (.int .i64 at_) := HBX.out.cell rfl; have e9 : wx.cell? ⟨W.heap.size, 9, none⟩ = some (.int .i64 op) := HBX.out.cell rfl; have e10 : wx.cell? ⟨W.heap.size, 10, none⟩ = some (.int .i64 rd_) := HBX.out.cell rfl; have e11 : wx.cell? ⟨W.heap.size, 11, none⟩ = some (.slice qa ql qc) := HBX.out.cell rfl; have e12 : wx.cell? ⟨W.heap.size, 12, none⟩ = some (.slice la ll lc) := HBX.out.cell rfl; have e13 : wx.cell? ⟨W.heap.size, 13, none⟩ = some (.slice pa pl pc) := HBX.out.cell rfl) | (go_at_call 38; refine (chen.Begin_yes k w s c st ia il ic wri ra rl rc at_ op rd_ (N : Int) _ rec _ (HREC.out.chg (HCA.out.trans HCC.out)) HRL.out HSZ.out HBG.out).mono ?_; rintro e wb ⟨bx, v, rfl, hb, ho, hv, hxb, hcx⟩; have HB0 : Hid (Blk wb bx (({ k := k, w := w, s := s, c := c, st := st, ia := ia, il := il, ic := ic, wr := wri, ra := ra, rl := rl, rc := rc, op := op, reader := rd_, phase := 0, i := 0, tries := 0, a := 0, b := 0, used := 0, m := .pointer none, base := at_, size := (N : Int), code := 0, steps := 0, over := false } : Core).cells v) 83) := Lib.hid hb; have HO0 : Hid (OwnW wb (W.alloc (.cells #[.int .i64 k, .int .i64 w, .int .i64 s, .int .i64 c, .int .u32 st, .slice ia il ic, .int .i64 wri, .slice ra rl rc, .int .i64 at_, .int .i64 op, .int .i64 rd_, .slice qa ql qc, .slice la ll lc, .slice pa pl pc] 36)).heap.size v rec) := Lib.hid (own_base ho HCC.out.size); have HV0 := Lib.hid hv; have HX0 : Hid ((W.alloc (.cells #[.int .i64 k, .int .i64 w, .int .i64 s, .int .i64 c, .int .u32 st, .slice ia il ic, .int .i64 wri, .slice ra rl rc, .int .i64 at_, .int .i64 op, .int .i64 rd_, .slice qa ql qc, .slice la ll lc, .slice pa pl pc] 36)).heap.size ≤ bx) := Lib.hid (Nat.le_trans HCC.out.size hxb); have HCC := Lib.hid (HCC.out.trans hcx); have HBX := Lib.hid (HBX.out.keep hcx (by simp)); clear hcx hb ho hv hxb e0 e1 e2 e3 e4 e5 e6 e7 e8 e9 e10 e11 e12 e13; have e0 : wb.cell? ⟨W.heap.size, 0, none⟩ = some (.int .i64 k) := HBX.out.cell rfl; have e1 : wb.cell? ⟨W.heap.size, 1, none⟩ = some (.int .i64 w) := HBX.out.cell rfl; have e2 : wb.cell? ⟨W.heap.size, 2, none⟩ = some (.int .i64 s) := HBX.out.cell rfl; have e3 : wb.cell? ⟨W.heap.size, 3, none⟩ = some (.int .i64 c) := HBX.out.cell rfl; have e4 : wb.cell? ⟨W.heap.size, 4, none⟩ = some (.int .u32 st) := HBX.out.cell rfl; have e5 : wb.cell? ⟨W.heap.size, 5, none⟩ = some (.slice ia il ic) := HBX.out.cell rfl; have e6 : wb.cell? ⟨W.heap.size, 6, none⟩ = some (.int .i64 wri) := HBX.out.cell rfl; have e7 : wb.cell? ⟨W.heap.size, 7, none⟩ = some (.slice ra rl rc) := HBX.out.cell rfl; have e8 : wb.cell? ⟨W.heap.size, 8, none⟩ = some (.int .i64 at_) := HBX.out.cell rfl; have e9 : wb.cell? ⟨W.heap.size, 9, none⟩ = some (.int .i64 op) := HBX.out.cell rfl; have e10 : wb.cell? ⟨W.heap.size, 10, none⟩ = some (.int .i64 rd_) := HBX.out.cell rfl; have e11 : wb.cell? ⟨W.heap.size, 11, none⟩ = some (.slice qa ql qc) := HBX.out.cell rfl; have e12 : wb.cell? ⟨W.heap.size, 12, none⟩ = some (.slice la ll lc) := HBX.out.cell rfl; have e13 : wb.cell? ⟨W.heap.size, 13, none⟩ = some (.slice pa pl pc) := HBX.out.cell rfl))
        refine rop.code_gen (R := fun V => Hid (Blk V W.heap.size #[.int .i64 k, .int .i64 w, .int .i64 s, .int .i64 c, .int .u32 st, .slice ia il ic, .int .i64 wri, .slice ra rl rc, .int .i64 at_, .int .i64 op, .int .i64 rd_, .slice qa ql qc, .slice la ll lc, .slice pa pl pc] 36) ∧ Hid (Chg [] (W.alloc (.cells #[.int .i64 k, .int .i64 w, .int .i64 s, .int .i64 c, .int .u32 st, .slice ia il ic, .int .i64 wri, .slice ra rl rc, .int .i64 at_, .int .i64 op, .int .i64 rd_, .slice qa ql qc, .slice la ll lc, .slice pa pl pc] 36)) V) ∧ Hid (Blk V bx (({ k := k, w := w, s := s, c := c, st := st, ia := ia, il := il, ic := ic, wr := wri, ra := ra, rl := rl, rc := rc, op := op, reader := rd_, phase := 0, i := 0, tries := 0, a := 0, b := 0, used := 0, m := .pointer none, base := at_, size := (N : Int), code := 0, steps := 0, over := false } : Core).cells v) 83) ∧ Hid (OwnW V (W.alloc (.cells #[.int .i64 k, .int .i64 w, .int .i64 s, .int .i64 c, .int .u32 st, .slice ia il ic, .int .i64 wri, .slice ra rl rc, .int .i64 at_, .int .i64 op, .int .i64 rd_, .slice qa ql qc, .slice la ll lc, .slice pa pl pc] 36)).heap.size v rec)) ⟨HBX, HCC, HB0, HO0⟩ ?_
        clear HBX HCC HB0 HO0 e0 e1 e2 e3 e4 e5 e6 e7 e8 e9 e10 e11 e12 e13
        rintro W1 ⟨HBX, HCC, HB0, HO0⟩
        have eS0 : W1.cell? ⟨W.heap.size, 0, none⟩ = some (.int .i64 k) := HBX.out.cell rfl
        have eS1 : W1.cell? ⟨W.heap.size, 1, none⟩ = some (.int .i64 w) := HBX.out.cell rfl
        have eS2 : W1.cell? ⟨W.heap.size, 2, none⟩ = some (.int .i64 s) := HBX.out.cell rfl
        have eS3 : W1.cell? ⟨W.heap.size, 3, none⟩ = some (.int .i64 c) := HBX.out.cell rfl
        have eS4 : W1.cell? ⟨W.heap.size, 4, none⟩ = some (.int .u32 st) := HBX.out.cell rfl
        have eS5 : W1.cell? ⟨W.heap.size, 5, none⟩ = some (.slice ia il ic) := HBX.out.cell rfl
        have eS6 : W1.cell? ⟨W.heap.size, 6, none⟩ = some (.int .i64 wri) := HBX.out.cell rfl
        have eS7 : W1.cell? ⟨W.heap.size, 7, none⟩ = some (.slice ra rl rc) := HBX.out.cell rfl
        have eS8 : W1.cell? ⟨W.heap.size, 8, none⟩ = some (.int .i64 at_) := HBX.out.cell rfl
        have eS9 : W1.cell? ⟨W.heap.size, 9, none⟩ = some (.int .i64 op) := HBX.out.cell rfl
        have eS10 : W1.cell? ⟨W.heap.size, 10, none⟩ = some (.int .i64 rd_) := HBX.out.cell rfl
        have eS11 : W1.cell? ⟨W.heap.size, 11, none⟩ = some (.slice qa ql qc) := HBX.out.cell rfl
        have eS12 : W1.cell? ⟨W.heap.size, 12, none⟩ = some (.slice la ll lc) := HBX.out.cell rfl
        have eS13 : W1.cell? ⟨W.heap.size, 13, none⟩ = some (.slice pa pl pc) := HBX.out.cell rfl
        have KEEP := Lib.hid (fun (V : World) (h : Chg [] W1 V) => (⟨h.keep eS0 (by simp), h.keep eS1 (by simp), h.keep eS2 (by simp), h.keep eS3 (by simp), h.keep eS4 (by simp), h.keep eS5 (by simp), h.keep eS6 (by simp), h.keep eS7 (by simp), h.keep eS8 (by simp), h.keep eS9 (by simp), h.keep eS10 (by simp), h.keep eS11 (by simp), h.keep eS12 (by simp), h.keep eS13 (by simp), Lib.hid h⟩ : (fun V : World => V.cell? ⟨W.heap.size, 0, none⟩ = some (.int .i64 k) ∧ V.cell? ⟨W.heap.size, 1, none⟩ = some (.int .i64 w) ∧ V.cell? ⟨W.heap.size, 2, none⟩ = some (.int .i64 s) ∧ V.cell? ⟨W.heap.size, 3, none⟩ = some (.int .i64 c) ∧ V.cell? ⟨W.heap.size, 4, none⟩ = some (.int .u32 st) ∧ V.cell? ⟨W.heap.size, 5, none⟩ = some (.slice ia il ic) ∧ V.cell? ⟨W.heap.size, 6, none⟩ = some (.int .i64 wri) ∧ V.cell? ⟨W.heap.size, 7, none⟩ = some (.slice ra rl rc) ∧ V.cell? ⟨W.heap.size, 8, none⟩ = some (.int .i64 at_) ∧ V.cell? ⟨W.heap.size, 9, none⟩ = some (.int .i64 op) ∧ V.cell? ⟨W.heap.size, 10, none⟩ = some (.int .i64 rd_) ∧ V.cell? ⟨W.heap.size, 11, none⟩ = some (.slice qa ql qc) ∧ V.cell? ⟨W.heap.size, 12, none⟩ = some (.slice la ll lc) ∧ V.cell? ⟨W.heap.size, 13, none⟩ = some (.slice pa pl pc) ∧ Hid (Chg [] W1 V)) V))
        clear eS0 eS1 eS2 eS3 eS4 eS5 eS6 eS7 eS8 eS9 eS10 eS11 eS12 eS13
        have hHeld : (fun V : World => V.cell? ⟨W.heap.size, 0, none⟩ = some (.int .i64 k) ∧ V.cell? ⟨W.heap.size, 1, none⟩ = some (.int .i64 w) ∧ V.cell? ⟨W.heap.size, 2, none⟩ = some (.int .i64 s) ∧ V.cell? ⟨W.heap.size, 3, none⟩ = some (.int .i64 c) ∧ V.cell? ⟨W.heap.size, 4, none⟩ = some (.int .u32 st) ∧ V.cell? ⟨W.heap.size, 5, none⟩ = some (.slice ia il ic) ∧ V.cell? ⟨W.heap.size, 6, none⟩ = some (.int .i64 wri) ∧ V.cell? ⟨W.heap.size, 7, none⟩ = some (.slice ra rl rc) ∧ V.cell? ⟨W.heap.size, 8, none⟩ = some (.int .i64 at_) ∧ V.cell? ⟨W.heap.size, 9, none⟩ = some (.int .i64 op) ∧ V.cell? ⟨W.heap.size, 10, none⟩ = some (.int .i64 rd_) ∧ V.cell? ⟨W.heap.size, 11, none⟩ = some (.slice qa ql qc) ∧ V.cell? ⟨W.heap.size, 12, none⟩ = some (.slice la ll lc) ∧ V.cell? ⟨W.heap.size, 13, none⟩ = some (.slice pa pl pc) ∧ Hid (Chg [] W1 V)) (World.drew W1) := KEEP.out _ (Chg.refl _ _).drew
        refine wp_region_plan (fun V : World => V.cell? ⟨W.heap.size, 0, none⟩ = some (.int .i64 k) ∧ V.cell? ⟨W.heap.size, 1, none⟩ = some (.int .i64 w) ∧ V.cell? ⟨W.heap.size, 2, none⟩ = some (.int .i64 s) ∧ V.cell? ⟨W.heap.size, 3, none⟩ = some (.int .i64 c) ∧ V.cell? ⟨W.heap.size, 4, none⟩ = some (.int .u32 st) ∧ V.cell? ⟨W.heap.size, 5, none⟩ = some (.slice ia il ic) ∧ V.cell? ⟨W.heap.size, 6, none⟩ = some (.int .i64 wri) ∧ V.cell? ⟨W.heap.size, 7, none⟩ = some (.slice ra rl rc) ∧ V.cell? ⟨W.heap.size, 8, none⟩ = some (.int .i64 at_) ∧ V.cell? ⟨W.heap.size, 9, none⟩ = some (.int .i64 op) ∧ V.cell? ⟨W.heap.size, 10, none⟩ = some (.int .i64 rd_) ∧ V.cell? ⟨W.heap.size, 11, none⟩ = some (.slice qa ql qc) ∧ V.cell? ⟨W.heap.size, 12, none⟩ = some (.slice la ll lc) ∧ V.cell? ⟨W.heap.size, 13, none⟩ = some (.slice pa pl pc) ∧ Hid (Chg [] W1 V)) [(0, true, some 27), (1, true, some 28), (2, true, some 29), (3, true, some 30), (4, true, some 31), (5, true, some 32), (6, true, some 33), (7, true, some 34), (8, true, some 35), (9, true, some 36), (10, true, some 37), (11, true, some 38), (12, true, some 39), (13, true, some 40), (14, true, some 41), (15, true, some 42), (16, true, some 43), (18, true, some 45), (19, true, some 46), (20, true, some 47), (21, true, some 48), (22, true, some 49), (23, true, some 50), (17, false, some 44), (24, true, some 51), (25, true, some 52)] (by kernel_rfl) (by kernel_rfl) (by kernel_rfl) (by kernel_rfl) (fun d c a v w h => by cases d <;> exact h) hHeld ?_
        repeat (first
          | (refine planWp_read (v := ?_) rfl rfl ?_ ?_ ?_; rotate_left; (focus rfl); (focus (intro u hSw; (try dsimp only at hSw); go_simp; (try with_reducible rfl))); (try simp only [Act.put, List.setIfInBounds_toArray, List.set_cons_zero, List.set_cons_succ]))
          | (refine planWp_skip rfl rfl ?_ ?_; (focus rfl); (try simp only [Act.put, List.setIfInBounds_toArray, List.set_cons_zero, List.set_cons_succ]))
          | (refine planWp_leave rfl rfl ?_ hHeld ?_; (focus rfl); (try simp only [Act.put, List.setIfInBounds_toArray, List.set_cons_zero, List.set_cons_succ]))
          | (refine planWp_do rfl rfl ?_ (fun K hK => ?_); (focus rfl); go_simp; (try go_wp2_with (go_at_call 26; refine (HSZ.out _).mono ?_; rintro e wx ⟨rfl, hcx⟩; have HCX := Lib.hid hcx; clear hcx)); refine hK.out _ _ ?_ (fun hHeld2 => ?_); (focus (exact KEEP.out _ (Chg.trans hHeld.2.2.2.2.2.2.2.2.2.2.2.2.2.2.out HCX.out))); clear hK K hHeld; have hHeld := hHeld2; clear hHeld2; (try simp only [Act.put, List.setIfInBounds_toArray, List.set_cons_zero, List.set_cons_succ])))
        refine planWp_nil ?_
        have HR4 := Lib.hid hHeld.2.2.2.2.2.2.2.2.2.2.2.2.2.2.out
        clear hHeld KEEP
        refine rop.then_gen (R := fun V => Hid (Blk V W.heap.size #[.int .i64 k, .int .i64 w, .int .i64 s, .int .i64 c, .int .u32 st, .slice ia il ic, .int .i64 wri, .slice ra rl rc, .int .i64 at_, .int .i64 op, .int .i64 rd_, .slice qa ql qc, .slice la ll lc, .slice pa pl pc] 36) ∧ Hid (Chg [] (W.alloc (.cells #[.int .i64 k, .int .i64 w, .int .i64 s, .int .i64 c, .int .u32 st, .slice ia il ic, .int .i64 wri, .slice ra rl rc, .int .i64 at_, .int .i64 op, .int .i64 rd_, .slice qa ql qc, .slice la ll lc, .slice pa pl pc] 36)) V) ∧ Hid (Blk V bx (({ k := k, w := w, s := s, c := c, st := st, ia := ia, il := il, ic := ic, wr := wri, ra := ra, rl := rl, rc := rc, op := op, reader := rd_, phase := 0, i := 0, tries := 0, a := 0, b := 0, used := 0, m := .pointer none, base := at_, size := (N : Int), code := 0, steps := 0, over := false } : Core).cells v) 83) ∧ Hid (OwnW V (W.alloc (.cells #[.int .i64 k, .int .i64 w, .int .i64 s, .int .i64 c, .int .u32 st, .slice ia il ic, .int .i64 wri, .slice ra rl rc, .int .i64 at_, .int .i64 op, .int .i64 rd_, .slice qa ql qc, .slice la ll lc, .slice pa pl pc] 36)).heap.size v rec)) ⟨Lib.hid (HBX.out.keep HR4.out (by simp)), Lib.hid (HCC.out.trans HR4.out), Lib.hid (HB0.out.keep HR4.out (by simp)), Lib.hid (mem.own_chg HO0.out HR4.out (by simp))⟩ ?_
        clear HBX HCC HB0 HO0 HR4
        rintro W2 ⟨HBX, HCC, HB0, HO0⟩
        have e12 : W2.cell? ⟨W.heap.size, 12, none⟩ = some (.slice la ll lc) := HBX.out.cell rfl
        go_wp2_with (first | (go_at_call 32; refine (Memory_ok _ l _ (HLR.out.chg (HCA.out.trans HCC.out)) (by have := HSP.out; omega)).mono ?_; rintro e w4 ⟨mb, sv, rfl, hm4, hc4, hb4, hs4⟩; have HP : Hid (Pair 83 bx mb sv w4 ({ k := k, w := w, s := s, c := c, st := st, ia := ia, il := il, ic := ic, wr := wri, ra := ra, rl := rl, rc := rc, op := op, reader := rd_, phase := 0, i := 0, tries := 0, a := 0, b := 0, used := 0, m := .pointer none, base := at_, size := (N : Int), code := 0, steps := 0, over := false } : Core) v rec l 0) := Lib.hid (Pair.make HB0.out HO0.out HV0.out HREC.out.2 HRL.out hc4 hm4 hb4 hs4); have HCC := Lib.hid (HCC.out.trans hc4); clear hm4 hc4 hb4 hs4) | (go_at_call 39; refine (chen.Step_no (by have h1 := HFIT.out; have h2 := HSP.out; have h3 := HNN.out; simp only [core.opens, Bool.not_false, Bool.true_and]; exact insB_false (by omega)) (St.start HP.out)).mono ?_; rintro e w5 ⟨rfl, hc5⟩; have HCC := Lib.hid (HCC.out.trans hc5); clear hc5) | (go_at_call 24; refine (chen.awake_any _ (HTA.out.keep HCC.out)).mono ?_; rintro e wz ⟨rfl, hcz⟩; have HZ := Lib.hid hcz; clear hcz))
        go_ret
        exact ⟨rfl, (HCA.out.trans (HCC.out.trans HZ.out)).below⟩
    · clear hAB
      have HBX : Hid (Blk (W.alloc (.cells #[.int .i64 k, .int .i64 w, .int .i64 s, .int .i64 c, .int .u32 st, .slice ia il ic, .int .i64 wri, .slice ra rl rc, .int .i64 at_, .int .i64 op, .int .i64 rd_, .slice qa ql qc, .slice la ll lc, .slice pa pl pc] 36)) W.heap.size #[.int .i64 k, .int .i64 w, .int .i64 s, .int .i64 c, .int .u32 st, .slice ia il ic, .int .i64 wri, .slice ra rl rc, .int .i64 at_, .int .i64 op, .int .i64 rd_, .slice qa ql qc, .slice la ll lc, .slice pa pl pc] 36) := Lib.hid (Blk.new W _ _)
      have HCA : Hid (Chg [] W (W.alloc (.cells #[.int .i64 k, .int .i64 w, .int .i64 s, .int .i64 c, .int .u32 st, .slice ia il ic, .int .i64 wri, .slice ra rl rc, .int .i64 at_, .int .i64 op, .int .i64 rd_, .slice qa ql qc, .slice la ll lc, .slice pa pl pc] 36))) := Lib.hid ((Chg.refl _ _).alloc _)
      have HTA : Hid (bitm.Tab (W.alloc (.cells #[.int .i64 k, .int .i64 w, .int .i64 s, .int .i64 c, .int .u32 st, .slice ia il ic, .int .i64 wri, .slice ra rl rc, .int .i64 at_, .int .i64 op, .int .i64 rd_, .slice qa ql qc, .slice la ll lc, .slice pa pl pc] 36))) := Lib.hid (hT.keep HCA.out)
      clear hT
      have HCC : Hid (Chg [] (W.alloc (.cells #[.int .i64 k, .int .i64 w, .int .i64 s, .int .i64 c, .int .u32 st, .slice ia il ic, .int .i64 wri, .slice ra rl rc, .int .i64 at_, .int .i64 op, .int .i64 rd_, .slice qa ql qc, .slice la ll lc, .slice pa pl pc] 36)) (W.alloc (.cells #[.int .i64 k, .int .i64 w, .int .i64 s, .int .i64 c, .int .u32 st, .slice ia il ic, .int .i64 wri, .slice ra rl rc, .int .i64 at_, .int .i64 op, .int .i64 rd_, .slice qa ql qc, .slice la ll lc, .slice pa pl pc] 36))) := Lib.hid (Chg.refl _ _)
      go_enter Tryd.func7, Tryd.ntmps7
      go_wp2_with (first | (go_at_call 29; refine (Light_any k w s c st ia il ic wri ra rl rc at_ op rd_ qa ql qc la ll lc pa pl pc _).mono ?_; rintro e wx ⟨rfl, hcx⟩; rw [HL.out]; have HCC := Lib.hid (HCC.out.trans hcx); have HBX := Lib.hid (HBX.out.keep hcx (by simp)); clear hcx; have e0 : wx.cell? ⟨W.heap.size, 0, none⟩ = some (.int .i64 k) := HBX.out.cell rfl; have e1 : wx.cell? ⟨W.heap.size, 1, none⟩ = some (.int .i64 w) := HBX.out.cell rfl; have e2 : wx.cell? ⟨W.heap.size, 2, none⟩ = some (.int .i64 s) := HBX.out.cell rfl; have e3 : wx.cell? ⟨W.heap.size, 3, none⟩ = some (.int .i64 c) := HBX.out.cell rfl; have e4 : wx.cell? ⟨W.heap.size, 4, none⟩ = some (.int .u32 st) := HBX.out.cell rfl; have e5 : wx.cell? ⟨W.heap.size, 5, none⟩ = some (.slice ia il ic) := HBX.out.cell rfl; have e6 : wx.cell? ⟨W.heap.size, 6, none⟩ = some (.int .i64 wri) := HBX.out.cell rfl; have e7 : wx.cell? ⟨W.heap.size, 7, none⟩ = some (.slice ra rl rc) := HBX.out.cell rfl; have e8 : wx.cell? ⟨W.heap.size, 8, none⟩ = some (.int .i64 at_) := HBX.out.cell rfl; have e9 : wx.cell? ⟨W.heap.size, 9, none⟩ = some (.int .i64 op) := HBX.out.cell rfl; have e10 : wx.cell? ⟨W.heap.size, 10, none⟩ = some (.int .i64 rd_) := HBX.out.cell rfl; have e11 : wx.cell? ⟨W.heap.size, 11, none⟩ = some (.slice qa ql qc) := HBX.out.cell rfl; have e12 : wx.cell? ⟨W.heap.size, 12, none⟩ = some (.slice la ll lc) := HBX.out.cell rfl; have e13 : wx.cell? ⟨W.heap.size, 13, none⟩ = some (.slice pa pl pc) := HBX.out.cell rfl) | (go_at_call 38; refine (chen.Begin_yes k w s c st ia il ic wri ra rl rc at_ op rd_ (N : Int) _ rec _ (HREC.out.chg (HCA.out.trans HCC.out)) HRL.out HSZ.out HBG.out).mono ?_; rintro e wb ⟨bx, v, rfl, hb, ho, hv, hxb, hcx⟩; have HB0 : Hid (Blk wb bx (({ k := k, w := w, s := s, c := c, st := st, ia := ia, il := il, ic := ic, wr := wri, ra := ra, rl := rl, rc := rc, op := op, reader := rd_, phase := 0, i := 0, tries := 0, a := 0, b := 0, used := 0, m := .pointer none, base := at_, size := (N : Int), code := 0, steps := 0, over := false } : Core).cells v) 83) := Lib.hid hb; have HO0 : Hid (OwnW wb (W.alloc (.cells #[.int .i64 k, .int .i64 w, .int .i64 s, .int .i64 c, .int .u32 st, .slice ia il ic, .int .i64 wri, .slice ra rl rc, .int .i64 at_, .int .i64 op, .int .i64 rd_, .slice qa ql qc, .slice la ll lc, .slice pa pl pc] 36)).heap.size v rec) := Lib.hid (own_base ho HCC.out.size); have HV0 := Lib.hid hv; have HX0 : Hid ((W.alloc (.cells #[.int .i64 k, .int .i64 w, .int .i64 s, .int .i64 c, .int .u32 st, .slice ia il ic, .int .i64 wri, .slice ra rl rc, .int .i64 at_, .int .i64 op, .int .i64 rd_, .slice qa ql qc, .slice la ll lc, .slice pa pl pc] 36)).heap.size ≤ bx) := Lib.hid (Nat.le_trans HCC.out.size hxb); have HCC := Lib.hid (HCC.out.trans hcx); have HBX := Lib.hid (HBX.out.keep hcx (by simp)); clear hcx hb ho hv hxb e0 e1 e2 e3 e4 e5 e6 e7 e8 e9 e10 e11 e12 e13; have e0 : wb.cell? ⟨W.heap.size, 0, none⟩ = some (.int .i64 k) := HBX.out.cell rfl; have e1 : wb.cell? ⟨W.heap.size, 1, none⟩ = some (.int .i64 w) := HBX.out.cell rfl; have e2 : wb.cell? ⟨W.heap.size, 2, none⟩ = some (.int .i64 s) := HBX.out.cell rfl; have e3 : wb.cell? ⟨W.heap.size, 3, none⟩ = some (.int .i64 c) := HBX.out.cell rfl; have e4 : wb.cell? ⟨W.heap.size, 4, none⟩ = some (.int .u32 st) := HBX.out.cell rfl; have e5 : wb.cell? ⟨W.heap.size, 5, none⟩ = some (.slice ia il ic) := HBX.out.cell rfl; have e6 : wb.cell? ⟨W.heap.size, 6, none⟩ = some (.int .i64 wri) := HBX.out.cell rfl; have e7 : wb.cell? ⟨W.heap.size, 7, none⟩ = some (.slice ra rl rc) := HBX.out.cell rfl; have e8 : wb.cell? ⟨W.heap.size, 8, none⟩ = some (.int .i64 at_) := HBX.out.cell rfl; have e9 : wb.cell? ⟨W.heap.size, 9, none⟩ = some (.int .i64 op) := HBX.out.cell rfl; have e10 : wb.cell? ⟨W.heap.size, 10, none⟩ = some (.int .i64 rd_) := HBX.out.cell rfl; have e11 : wb.cell? ⟨W.heap.size, 11, none⟩ = some (.slice qa ql qc) := HBX.out.cell rfl; have e12 : wb.cell? ⟨W.heap.size, 12, none⟩ = some (.slice la ll lc) := HBX.out.cell rfl; have e13 : wb.cell? ⟨W.heap.size, 13, none⟩ = some (.slice pa pl pc) := HBX.out.cell rfl))
      refine rop.code_gen (R := fun V => Hid (Blk V W.heap.size #[.int .i64 k, .int .i64 w, .int .i64 s, .int .i64 c, .int .u32 st, .slice ia il ic, .int .i64 wri, .slice ra rl rc, .int .i64 at_, .int .i64 op, .int .i64 rd_, .slice qa ql qc, .slice la ll lc, .slice pa pl pc] 36) ∧ Hid (Chg [] (W.alloc (.cells #[.int .i64 k, .int .i64 w, .int .i64 s, .int .i64 c, .int .u32 st, .slice ia il ic, .int .i64 wri, .slice ra rl rc, .int .i64 at_, .int .i64 op, .int .i64 rd_, .slice qa ql qc, .slice la ll lc, .slice pa pl pc] 36)) V) ∧ Hid (Blk V bx (({ k := k, w := w, s := s, c := c, st := st, ia := ia, il := il, ic := ic, wr := wri, ra := ra, rl := rl, rc := rc, op := op, reader := rd_, phase := 0, i := 0, tries := 0, a := 0, b := 0, used := 0, m := .pointer none, base := at_, size := (N : Int), code := 0, steps := 0, over := false } : Core).cells v) 83) ∧ Hid (OwnW V (W.alloc (.cells #[.int .i64 k, .int .i64 w, .int .i64 s, .int .i64 c, .int .u32 st, .slice ia il ic, .int .i64 wri, .slice ra rl rc, .int .i64 at_, .int .i64 op, .int .i64 rd_, .slice qa ql qc, .slice la ll lc, .slice pa pl pc] 36)).heap.size v rec)) ⟨HBX, HCC, HB0, HO0⟩ ?_
      clear HBX HCC HB0 HO0 e0 e1 e2 e3 e4 e5 e6 e7 e8 e9 e10 e11 e12 e13
      rintro W1 ⟨HBX, HCC, HB0, HO0⟩
      have eS0 : W1.cell? ⟨W.heap.size, 0, none⟩ = some (.int .i64 k) := HBX.out.cell rfl
      have eS1 : W1.cell? ⟨W.heap.size, 1, none⟩ = some (.int .i64 w) := HBX.out.cell rfl
      have eS2 : W1.cell? ⟨W.heap.size, 2, none⟩ = some (.int .i64 s) := HBX.out.cell rfl
      have eS3 : W1.cell? ⟨W.heap.size, 3, none⟩ = some (.int .i64 c) := HBX.out.cell rfl
      have eS4 : W1.cell? ⟨W.heap.size, 4, none⟩ = some (.int .u32 st) := HBX.out.cell rfl
      have eS5 : W1.cell? ⟨W.heap.size, 5, none⟩ = some (.slice ia il ic) := HBX.out.cell rfl
      have eS6 : W1.cell? ⟨W.heap.size, 6, none⟩ = some (.int .i64 wri) := HBX.out.cell rfl
      have eS7 : W1.cell? ⟨W.heap.size, 7, none⟩ = some (.slice ra rl rc) := HBX.out.cell rfl
      have eS8 : W1.cell? ⟨W.heap.size, 8, none⟩ = some (.int .i64 at_) := HBX.out.cell rfl
      have eS9 : W1.cell? ⟨W.heap.size, 9, none⟩ = some (.int .i64 op) := HBX.out.cell rfl
      have eS10 : W1.cell? ⟨W.heap.size, 10, none⟩ = some (.int .i64 rd_) := HBX.out.cell rfl
      have eS11 : W1.cell? ⟨W.heap.size, 11, none⟩ = some (.slice qa ql qc) := HBX.out.cell rfl
      have eS12 : W1.cell? ⟨W.heap.size, 12, none⟩ = some (.slice la ll lc) := HBX.out.cell rfl
      have eS13 : W1.cell? ⟨W.heap.size, 13, none⟩ = some (.slice pa pl pc) := HBX.out.cell rfl
      have KEEP := Lib.hid (fun (V : World) (h : Chg [] W1 V) => (⟨h.keep eS0 (by simp), h.keep eS1 (by simp), h.keep eS2 (by simp), h.keep eS3 (by simp), h.keep eS4 (by simp), h.keep eS5 (by simp), h.keep eS6 (by simp), h.keep eS7 (by simp), h.keep eS8 (by simp), h.keep eS9 (by simp), h.keep eS10 (by simp), h.keep eS11 (by simp), h.keep eS12 (by simp), h.keep eS13 (by simp), Lib.hid h⟩ : (fun V : World => V.cell? ⟨W.heap.size, 0, none⟩ = some (.int .i64 k) ∧ V.cell? ⟨W.heap.size, 1, none⟩ = some (.int .i64 w) ∧ V.cell? ⟨W.heap.size, 2, none⟩ = some (.int .i64 s) ∧ V.cell? ⟨W.heap.size, 3, none⟩ = some (.int .i64 c) ∧ V.cell? ⟨W.heap.size, 4, none⟩ = some (.int .u32 st) ∧ V.cell? ⟨W.heap.size, 5, none⟩ = some (.slice ia il ic) ∧ V.cell? ⟨W.heap.size, 6, none⟩ = some (.int .i64 wri) ∧ V.cell? ⟨W.heap.size, 7, none⟩ = some (.slice ra rl rc) ∧ V.cell? ⟨W.heap.size, 8, none⟩ = some (.int .i64 at_) ∧ V.cell? ⟨W.heap.size, 9, none⟩ = some (.int .i64 op) ∧ V.cell? ⟨W.heap.size, 10, none⟩ = some (.int .i64 rd_) ∧ V.cell? ⟨W.heap.size, 11, none⟩ = some (.slice qa ql qc) ∧ V.cell? ⟨W.heap.size, 12, none⟩ = some (.slice la ll lc) ∧ V.cell? ⟨W.heap.size, 13, none⟩ = some (.slice pa pl pc) ∧ Hid (Chg [] W1 V)) V))
      clear eS0 eS1 eS2 eS3 eS4 eS5 eS6 eS7 eS8 eS9 eS10 eS11 eS12 eS13
      have hHeld : (fun V : World => V.cell? ⟨W.heap.size, 0, none⟩ = some (.int .i64 k) ∧ V.cell? ⟨W.heap.size, 1, none⟩ = some (.int .i64 w) ∧ V.cell? ⟨W.heap.size, 2, none⟩ = some (.int .i64 s) ∧ V.cell? ⟨W.heap.size, 3, none⟩ = some (.int .i64 c) ∧ V.cell? ⟨W.heap.size, 4, none⟩ = some (.int .u32 st) ∧ V.cell? ⟨W.heap.size, 5, none⟩ = some (.slice ia il ic) ∧ V.cell? ⟨W.heap.size, 6, none⟩ = some (.int .i64 wri) ∧ V.cell? ⟨W.heap.size, 7, none⟩ = some (.slice ra rl rc) ∧ V.cell? ⟨W.heap.size, 8, none⟩ = some (.int .i64 at_) ∧ V.cell? ⟨W.heap.size, 9, none⟩ = some (.int .i64 op) ∧ V.cell? ⟨W.heap.size, 10, none⟩ = some (.int .i64 rd_) ∧ V.cell? ⟨W.heap.size, 11, none⟩ = some (.slice qa ql qc) ∧ V.cell? ⟨W.heap.size, 12, none⟩ = some (.slice la ll lc) ∧ V.cell? ⟨W.heap.size, 13, none⟩ = some (.slice pa pl pc) ∧ Hid (Chg [] W1 V)) (World.drew W1) := KEEP.out _ (Chg.refl _ _).drew
      refine wp_region_plan (fun V : World => V.cell? ⟨W.heap.size, 0, none⟩ = some (.int .i64 k) ∧ V.cell? ⟨W.heap.size, 1, none⟩ = some (.int .i64 w) ∧ V.cell? ⟨W.heap.size, 2, none⟩ = some (.int .i64 s) ∧ V.cell? ⟨W.heap.size, 3, none⟩ = some (.int .i64 c) ∧ V.cell? ⟨W.heap.size, 4, none⟩ = some (.int .u32 st) ∧ V.cell? ⟨W.heap.size, 5, none⟩ = some (.slice ia il ic) ∧ V.cell? ⟨W.heap.size, 6, none⟩ = some (.int .i64 wri) ∧ V.cell? ⟨W.heap.size, 7, none⟩ = some (.slice ra rl rc) ∧ V.cell? ⟨W.heap.size, 8, none⟩ = some (.int .i64 at_) ∧ V.cell? ⟨W.heap.size, 9, none⟩ = some (.int .i64 op) ∧ V.cell? ⟨W.heap.size, 10, none⟩ = some (.int .i64 rd_) ∧ V.cell? ⟨W.heap.size, 11, none⟩ = some (.slice qa ql qc) ∧ V.cell? ⟨W.heap.size, 12, none⟩ = some (.slice la ll lc) ∧ V.cell? ⟨W.heap.size, 13, none⟩ = some (.slice pa pl pc) ∧ Hid (Chg [] W1 V)) [(0, true, some 27), (1, true, some 28), (2, true, some 29), (3, true, some 30), (4, true, some 31), (5, true, some 32), (6, true, some 33), (7, true, some 34), (8, true, some 35), (9, true, some 36), (10, true, some 37), (11, true, some 38), (12, true, some 39), (13, true, some 40), (14, true, some 41), (15, true, some 42), (16, true, some 43), (18, true, some 45), (19, true, some 46), (20, true, some 47), (21, true, some 48), (22, true, some 49), (23, true, some 50), (17, false, some 44), (24, true, some 51), (25, true, some 52)] (by kernel_rfl) (by kernel_rfl) (by kernel_rfl) (by kernel_rfl) (fun d c a v w h => by cases d <;> exact h) hHeld ?_
      repeat (first
        | (refine planWp_read (v := ?_) rfl rfl ?_ ?_ ?_; rotate_left; (focus rfl); (focus (intro u hSw; (try dsimp only at hSw); go_simp; (try with_reducible rfl))); (try simp only [Act.put, List.setIfInBounds_toArray, List.set_cons_zero, List.set_cons_succ]))
        | (refine planWp_skip rfl rfl ?_ ?_; (focus rfl); (try simp only [Act.put, List.setIfInBounds_toArray, List.set_cons_zero, List.set_cons_succ]))
        | (refine planWp_leave rfl rfl ?_ hHeld ?_; (focus rfl); (try simp only [Act.put, List.setIfInBounds_toArray, List.set_cons_zero, List.set_cons_succ]))
        | (refine planWp_do rfl rfl ?_ (fun K hK => ?_); (focus rfl); go_simp; (try go_wp2_with (go_at_call 26; refine (HSZ.out _).mono ?_; rintro e wx ⟨rfl, hcx⟩; have HCX := Lib.hid hcx; clear hcx)); refine hK.out _ _ ?_ (fun hHeld2 => ?_); (focus (exact KEEP.out _ (Chg.trans hHeld.2.2.2.2.2.2.2.2.2.2.2.2.2.2.out HCX.out))); clear hK K hHeld; have hHeld := hHeld2; clear hHeld2; (try simp only [Act.put, List.setIfInBounds_toArray, List.set_cons_zero, List.set_cons_succ])))
      refine planWp_nil ?_
      have HR4 := Lib.hid hHeld.2.2.2.2.2.2.2.2.2.2.2.2.2.2.out
      clear hHeld KEEP
      refine rop.then_gen (R := fun V => Hid (Blk V W.heap.size #[.int .i64 k, .int .i64 w, .int .i64 s, .int .i64 c, .int .u32 st, .slice ia il ic, .int .i64 wri, .slice ra rl rc, .int .i64 at_, .int .i64 op, .int .i64 rd_, .slice qa ql qc, .slice la ll lc, .slice pa pl pc] 36) ∧ Hid (Chg [] (W.alloc (.cells #[.int .i64 k, .int .i64 w, .int .i64 s, .int .i64 c, .int .u32 st, .slice ia il ic, .int .i64 wri, .slice ra rl rc, .int .i64 at_, .int .i64 op, .int .i64 rd_, .slice qa ql qc, .slice la ll lc, .slice pa pl pc] 36)) V) ∧ Hid (Blk V bx (({ k := k, w := w, s := s, c := c, st := st, ia := ia, il := il, ic := ic, wr := wri, ra := ra, rl := rl, rc := rc, op := op, reader := rd_, phase := 0, i := 0, tries := 0, a := 0, b := 0, used := 0, m := .pointer none, base := at_, size := (N : Int), code := 0, steps := 0, over := false } : Core).cells v) 83) ∧ Hid (OwnW V (W.alloc (.cells #[.int .i64 k, .int .i64 w, .int .i64 s, .int .i64 c, .int .u32 st, .slice ia il ic, .int .i64 wri, .slice ra rl rc, .int .i64 at_, .int .i64 op, .int .i64 rd_, .slice qa ql qc, .slice la ll lc, .slice pa pl pc] 36)).heap.size v rec)) ⟨Lib.hid (HBX.out.keep HR4.out (by simp)), Lib.hid (HCC.out.trans HR4.out), Lib.hid (HB0.out.keep HR4.out (by simp)), Lib.hid (mem.own_chg HO0.out HR4.out (by simp))⟩ ?_
      clear HBX HCC HB0 HO0 HR4
      rintro W2 ⟨HBX, HCC, HB0, HO0⟩
      have e12 : W2.cell? ⟨W.heap.size, 12, none⟩ = some (.slice la ll lc) := HBX.out.cell rfl
      go_wp2_with (first | (go_at_call 32; refine (Memory_ok _ l _ (HLR.out.chg (HCA.out.trans HCC.out)) (by have := HSP.out; omega)).mono ?_; rintro e w4 ⟨mb, sv, rfl, hm4, hc4, hb4, hs4⟩; have HP : Hid (Pair 83 bx mb sv w4 ({ k := k, w := w, s := s, c := c, st := st, ia := ia, il := il, ic := ic, wr := wri, ra := ra, rl := rl, rc := rc, op := op, reader := rd_, phase := 0, i := 0, tries := 0, a := 0, b := 0, used := 0, m := .pointer none, base := at_, size := (N : Int), code := 0, steps := 0, over := false } : Core) v rec l 0) := Lib.hid (Pair.make HB0.out HO0.out HV0.out HREC.out.2 HRL.out hc4 hm4 hb4 hs4); have HCC := Lib.hid (HCC.out.trans hc4); clear hm4 hc4 hb4 hs4) | (go_at_call 39; refine (chen.Step_no (by have h1 := HFIT.out; have h2 := HSP.out; have h3 := HNN.out; simp only [core.opens, Bool.not_false, Bool.true_and]; exact insB_false (by omega)) (St.start HP.out)).mono ?_; rintro e w5 ⟨rfl, hc5⟩; have HCC := Lib.hid (HCC.out.trans hc5); clear hc5) | (go_at_call 24; refine (chen.awake_any _ (HTA.out.keep HCC.out)).mono ?_; rintro e wz ⟨rfl, hcz⟩; have HZ := Lib.hid hcz; clear hcz))
      go_ret
      exact ⟨rfl, (HCA.out.trans (HCC.out.trans HZ.out)).below⟩
  refine key _ _ rfl rfl ?_
  rcases hfit with h1 | h1 <;> simp [h1]

theorem start_shape (k w s c st : Int) (ia : Option Addr) (il ic : Nat) (wri : Int) (ra : Option Addr) (rl rc : Nat) (at_ op rd_ : Int) (qa : Option Addr) (ql qc : Nat) (la : Option Addr) (ll lc : Nat) (pa : Option Addr) (pl pc : Nat) {N wN : Nat} {rec l : List Int} {ps : List Poke} {W : World} (h : Given k w s c st ia il ic wri ra rl rc at_ op rd_ qa ql qc la ll lc pa pl pc N wN rec l ps W) :
    chen.K.Shape ({ k := k, w := w, s := s, c := c, st := st, ia := ia, il := il, ic := ic, wr := wri, ra := ra, rl := rl, rc := rc, op := op, reader := rd_, phase := 0, i := 0, tries := 0, a := 0, b := 0, used := 0, m := .pointer none, base := at_, size := (N : Int), code := 0, steps := 0, over := false } : Core) rec ∧ chen.K.left ({ k := k, w := w, s := s, c := c, st := st, ia := ia, il := il, ic := ic, wr := wri, ra := ra, rl := rl, rc := rc, op := op, reader := rd_, phase := 0, i := 0, tries := 0, a := 0, b := 0, used := 0, m := .pointer none, base := at_, size := (N : Int), code := 0, steps := 0, over := false } : Core) = boundK 2 w c rl op ∧ 1 ≤ boundK 2 w c rl op ∧ boundK 2 w c rl op ≤ 200 := by
  have hsp := h.spec
  have hw := h.hwN
  have hN := h.hN
  have hrlb : 1 ≤ rl ∧ rl ≤ 4 := by
    have hr := h.right
    simp only [Bool.and_eq_true, decide_eq_true_eq, rightB] at hr
    omega
  have hrd : 0 ≤ rd_ ∧ rd_ < (rl : Int) := by
    have hb := h.beg
    unfold begI at hb
    split at hb
    · omega
    · split at hb
      · split at hb
        · omega
        · omega
      · split at hb
        · split at hb
          · omega
          · omega
        · omega
  have hnn := Int.mul_nonneg (show 0 ≤ (rl : Int) + 2 by omega) (show 0 ≤ w by omega)
  have hnw : (N : Int) = 1 + rl + ((rl : Int) + 2) * w := by rw [hN]; omega
  rcases hsp.2.2.2.2.2.2.2 with ⟨ho, hr⟩ | ⟨ho, hr⟩
  · subst ho
    refine ⟨⟨by simp only []; omega, by simp only []; omega, by simp only []; omega, by simp only []; omega, hrd, hsp.2.2.2.2.1, hnw, fun _ _ _ => bitm.Marks.zero, fun _ => by simp only []; exact ⟨by omega, by simp; omega⟩, .inl ⟨rfl, by simp, fun _ => by simp only []; omega⟩⟩, by simp [chen.K, chen.left, boundK], by simp [boundK]; omega, by simp [boundK]; omega⟩
  · subst ho
    refine ⟨⟨by simp only []; omega, by simp only []; omega, by simp only []; omega, by simp only []; omega, hrd, hsp.2.2.2.2.1, hnw, fun _ h9 => by simp at h9, fun _ => by simp only []; exact ⟨by omega, by simp; omega⟩, .inr ⟨rfl, by simp, fun _ => by simp [hr]⟩⟩, by simp [chen.K, chen.left, boundK], by simp [boundK]; omega, by simp [boundK]; omega⟩

set_option maxHeartbeats 16000000 in
theorem fits (k w s c st : Int) (ia : Option Addr) (il ic : Nat) (wri : Int) (ra : Option Addr) (rl rc : Nat) (at_ op rd_ : Int) (qa : Option Addr) (ql qc : Nat) (la : Option Addr) (ll lc : Nat) (pa : Option Addr) (pl pc : Nat) (N wN : Nat) (rec l : List Int) (ps : List Poke) (W : World) (hT : bitm.Tab W) (h : Given k w s c st ia il ic wri ra rl rc at_ op rd_ qa ql qc la ll lc pa pl pc N wN rec l ps W) (h1 : ¬ (ll : Int) < at_) (h2 : ¬ (ll : Int) - at_ < (N : Int)) :
    Calls Tryd.prog 7 #[.agg #[.int .i64 k, .int .i64 w, .int .i64 s, .int .i64 c, .int .u32 st, .slice ia il ic, .int .i64 wri, .slice ra rl rc, .int .i64 at_, .int .i64 op, .int .i64 rd_, .slice qa ql qc, .slice la ll lc, .slice pa pl pc]] W fun e W' => e = .returned (.bool true) ∧ Below W.heap.size W W' := by
  have hsp := h.spec
  have hst := start_shape k w s c st ia il ic wri ra rl rc at_ op rd_ qa ql qc la ll lc pa pl pc h
  obtain ⟨i0, hi, hz0, hz1, hz2⟩ := info_parts mem.info32
  have HI0 : Hid (Tryd.prog.info? 22 = some i0 ∧ i0.zero = some (.int .u32 0) ∧ i0.size = 1 ∧ i0.bytes = 4) := Lib.hid ⟨hi, hz0, hz1, hz2⟩
  clear hi hz0 hz1 hz2
  have HSP := Lib.hid hsp
  have HST := Lib.hid hst
  have HL := Lib.hid h.light
  have HREC := Lib.hid h.hrec
  have HRL : Hid (rec.length ≤ 1000) := Lib.hid hsp.1
  have HLR := Lib.hid h.hl
  have HPS := Lib.hid h.hps
  have HPN : Hid (pl = ps.length) := Lib.hid (by obtain ⟨_, _, he, _⟩ := reads_slice h.hps.1; simp at he; exact he.2.1)
  have HSZ : Hid (∀ V, Calls Tryd.prog 26 #[.agg #[.int .i64 k, .int .i64 w, .int .i64 s, .int .i64 c, .int .u32 st, .slice ia il ic, .int .i64 wri, .slice ra rl rc]] V fun e W' => e = .returned (.int .i64 (N : Int)) ∧ Chg [] V W') := Lib.hid (fun V => by rw [h.hN]; exact chen.Size_yes k w s c st ia il ic wri ra rl rc wN h.hwN h.obj h.right V)
  have hbn := fun V => chenBound_any k w s c st ia il ic wri ra rl rc op h.obj V
  have hrg := h.right
  simp only [hrg, if_true] at hbn
  obtain ⟨mo, hmo⟩ : ∃ mo : Nat, boundK 2 w c rl op = (mo : Int) := ⟨(boundK 2 w c rl op).toNat, by omega⟩
  have HMO := Lib.hid hmo
  rw [hmo] at hbn
  have HBN := Lib.hid hbn
  have HBG := Lib.hid h.beg
  have hN : N = 1 + rl + (((rl : Int) + 2) * w).toNat := h.hN
  have HNN := Lib.hid hN
  have HFIT : Hid (at_ + (N : Int) ≤ (ll : Int) ∧ 0 ≤ at_ ∧ (1 ≤ mo ∧ mo ≤ 200)) := Lib.hid (by omega)
  have hA : decide ((ll : Int) < at_) = false := by simpa using h1
  have hB : decide ((ll : Int) - at_ < (N : Int)) = false := by simpa using h2
  have hw : IntKind.i64.wrap ((ll : Int) - at_) = (ll : Int) - at_ := by have := h.at64; rw [IntKind.wrap_i64]; omega
  clear h hsp hst hbn hrg hN h1 h2 hmo
  have HBX : Hid (Blk (W.alloc (.cells #[.int .i64 k, .int .i64 w, .int .i64 s, .int .i64 c, .int .u32 st, .slice ia il ic, .int .i64 wri, .slice ra rl rc, .int .i64 at_, .int .i64 op, .int .i64 rd_, .slice qa ql qc, .slice la ll lc, .slice pa pl pc] 36)) W.heap.size #[.int .i64 k, .int .i64 w, .int .i64 s, .int .i64 c, .int .u32 st, .slice ia il ic, .int .i64 wri, .slice ra rl rc, .int .i64 at_, .int .i64 op, .int .i64 rd_, .slice qa ql qc, .slice la ll lc, .slice pa pl pc] 36) := Lib.hid (Blk.new W _ _)
  have HCA : Hid (Chg [] W (W.alloc (.cells #[.int .i64 k, .int .i64 w, .int .i64 s, .int .i64 c, .int .u32 st, .slice ia il ic, .int .i64 wri, .slice ra rl rc, .int .i64 at_, .int .i64 op, .int .i64 rd_, .slice qa ql qc, .slice la ll lc, .slice pa pl pc] 36))) := Lib.hid ((Chg.refl _ _).alloc _)
  have HTA : Hid (bitm.Tab (W.alloc (.cells #[.int .i64 k, .int .i64 w, .int .i64 s, .int .i64 c, .int .u32 st, .slice ia il ic, .int .i64 wri, .slice ra rl rc, .int .i64 at_, .int .i64 op, .int .i64 rd_, .slice qa ql qc, .slice la ll lc, .slice pa pl pc] 36))) := Lib.hid (hT.keep HCA.out)
  clear hT
  have HCC : Hid (Chg [] (W.alloc (.cells #[.int .i64 k, .int .i64 w, .int .i64 s, .int .i64 c, .int .u32 st, .slice ia il ic, .int .i64 wri, .slice ra rl rc, .int .i64 at_, .int .i64 op, .int .i64 rd_, .slice qa ql qc, .slice la ll lc, .slice pa pl pc] 36)) (W.alloc (.cells #[.int .i64 k, .int .i64 w, .int .i64 s, .int .i64 c, .int .u32 st, .slice ia il ic, .int .i64 wri, .slice ra rl rc, .int .i64 at_, .int .i64 op, .int .i64 rd_, .slice qa ql qc, .slice la ll lc, .slice pa pl pc] 36))) := Lib.hid (Chg.refl _ _)
  go_enter Tryd.func7, Tryd.ntmps7
  go_wp2_with (first | (go_at_call 29; refine (Light_any k w s c st ia il ic wri ra rl rc at_ op rd_ qa ql qc la ll lc pa pl pc _).mono ?_; rintro e wx ⟨rfl, hcx⟩; rw [HL.out]; have HCC := Lib.hid (HCC.out.trans hcx); have HBX := Lib.hid (HBX.out.keep hcx (by simp)); clear hcx; have e0 : wx.cell? ⟨W.heap.size, 0, none⟩ = some (.int .i64 k) := HBX.out.cell rfl; have e1 : wx.cell? ⟨W.heap.size, 1, none⟩ = some (.int .i64 w) := HBX.out.cell rfl; have e2 : wx.cell? ⟨W.heap.size, 2, none⟩ = some (.int .i64 s) := HBX.out.cell rfl; have e3 : wx.cell? ⟨W.heap.size, 3, none⟩ = some (.int .i64 c) := HBX.out.cell rfl; have e4 : wx.cell? ⟨W.heap.size, 4, none⟩ = some (.int .u32 st) := HBX.out.cell rfl; have e5 : wx.cell? ⟨W.heap.size, 5, none⟩ = some (.slice ia il ic) := HBX.out.cell rfl; have e6 : wx.cell? ⟨W.heap.size, 6, none⟩ = some (.int .i64 wri) := HBX.out.cell rfl; have e7 : wx.cell? ⟨W.heap.size, 7, none⟩ = some (.slice ra rl rc) := HBX.out.cell rfl; have e8 : wx.cell? ⟨W.heap.size, 8, none⟩ = some (.int .i64 at_) := HBX.out.cell rfl; have e9 : wx.cell? ⟨W.heap.size, 9, none⟩ = some (.int .i64 op) := HBX.out.cell rfl; have e10 : wx.cell? ⟨W.heap.size, 10, none⟩ = some (.int .i64 rd_) := HBX.out.cell rfl; have e11 : wx.cell? ⟨W.heap.size, 11, none⟩ = some (.slice qa ql qc) := HBX.out.cell rfl; have e12 : wx.cell? ⟨W.heap.size, 12, none⟩ = some (.slice la ll lc) := HBX.out.cell rfl; have e13 : wx.cell? ⟨W.heap.size, 13, none⟩ = some (.slice pa pl pc) := HBX.out.cell rfl) | (go_at_call 38; refine (chen.Begin_yes k w s c st ia il ic wri ra rl rc at_ op rd_ (N : Int) _ rec _ (HREC.out.chg (HCA.out.trans HCC.out)) HRL.out HSZ.out HBG.out).mono ?_; rintro e wb ⟨bx, v, rfl, hb, ho, hv, hxb, hcx⟩; have HB0 : Hid (Blk wb bx (({ k := k, w := w, s := s, c := c, st := st, ia := ia, il := il, ic := ic, wr := wri, ra := ra, rl := rl, rc := rc, op := op, reader := rd_, phase := 0, i := 0, tries := 0, a := 0, b := 0, used := 0, m := .pointer none, base := at_, size := (N : Int), code := 0, steps := 0, over := false } : Core).cells v) 83) := Lib.hid hb; have HO0 : Hid (OwnW wb (W.alloc (.cells #[.int .i64 k, .int .i64 w, .int .i64 s, .int .i64 c, .int .u32 st, .slice ia il ic, .int .i64 wri, .slice ra rl rc, .int .i64 at_, .int .i64 op, .int .i64 rd_, .slice qa ql qc, .slice la ll lc, .slice pa pl pc] 36)).heap.size v rec) := Lib.hid (own_base ho HCC.out.size); have HV0 := Lib.hid hv; have HX0 : Hid ((W.alloc (.cells #[.int .i64 k, .int .i64 w, .int .i64 s, .int .i64 c, .int .u32 st, .slice ia il ic, .int .i64 wri, .slice ra rl rc, .int .i64 at_, .int .i64 op, .int .i64 rd_, .slice qa ql qc, .slice la ll lc, .slice pa pl pc] 36)).heap.size ≤ bx) := Lib.hid (Nat.le_trans HCC.out.size hxb); have HCC := Lib.hid (HCC.out.trans hcx); have HBX := Lib.hid (HBX.out.keep hcx (by simp)); clear hcx hb ho hv hxb e0 e1 e2 e3 e4 e5 e6 e7 e8 e9 e10 e11 e12 e13; have e0 : wb.cell? ⟨W.heap.size, 0, none⟩ = some (.int .i64 k) := HBX.out.cell rfl; have e1 : wb.cell? ⟨W.heap.size, 1, none⟩ = some (.int .i64 w) := HBX.out.cell rfl; have e2 : wb.cell? ⟨W.heap.size, 2, none⟩ = some (.int .i64 s) := HBX.out.cell rfl; have e3 : wb.cell? ⟨W.heap.size, 3, none⟩ = some (.int .i64 c) := HBX.out.cell rfl; have e4 : wb.cell? ⟨W.heap.size, 4, none⟩ = some (.int .u32 st) := HBX.out.cell rfl; have e5 : wb.cell? ⟨W.heap.size, 5, none⟩ = some (.slice ia il ic) := HBX.out.cell rfl; have e6 : wb.cell? ⟨W.heap.size, 6, none⟩ = some (.int .i64 wri) := HBX.out.cell rfl; have e7 : wb.cell? ⟨W.heap.size, 7, none⟩ = some (.slice ra rl rc) := HBX.out.cell rfl; have e8 : wb.cell? ⟨W.heap.size, 8, none⟩ = some (.int .i64 at_) := HBX.out.cell rfl; have e9 : wb.cell? ⟨W.heap.size, 9, none⟩ = some (.int .i64 op) := HBX.out.cell rfl; have e10 : wb.cell? ⟨W.heap.size, 10, none⟩ = some (.int .i64 rd_) := HBX.out.cell rfl; have e11 : wb.cell? ⟨W.heap.size, 11, none⟩ = some (.slice qa ql qc) := HBX.out.cell rfl; have e12 : wb.cell? ⟨W.heap.size, 12, none⟩ = some (.slice la ll lc) := HBX.out.cell rfl; have e13 : wb.cell? ⟨W.heap.size, 13, none⟩ = some (.slice pa pl pc) := HBX.out.cell rfl))
  refine rop.code_gen (R := fun V => Hid (Blk V W.heap.size #[.int .i64 k, .int .i64 w, .int .i64 s, .int .i64 c, .int .u32 st, .slice ia il ic, .int .i64 wri, .slice ra rl rc, .int .i64 at_, .int .i64 op, .int .i64 rd_, .slice qa ql qc, .slice la ll lc, .slice pa pl pc] 36) ∧ Hid (Chg [] (W.alloc (.cells #[.int .i64 k, .int .i64 w, .int .i64 s, .int .i64 c, .int .u32 st, .slice ia il ic, .int .i64 wri, .slice ra rl rc, .int .i64 at_, .int .i64 op, .int .i64 rd_, .slice qa ql qc, .slice la ll lc, .slice pa pl pc] 36)) V) ∧ Hid (Blk V bx (({ k := k, w := w, s := s, c := c, st := st, ia := ia, il := il, ic := ic, wr := wri, ra := ra, rl := rl, rc := rc, op := op, reader := rd_, phase := 0, i := 0, tries := 0, a := 0, b := 0, used := 0, m := .pointer none, base := at_, size := (N : Int), code := 0, steps := 0, over := false } : Core).cells v) 83) ∧ Hid (OwnW V (W.alloc (.cells #[.int .i64 k, .int .i64 w, .int .i64 s, .int .i64 c, .int .u32 st, .slice ia il ic, .int .i64 wri, .slice ra rl rc, .int .i64 at_, .int .i64 op, .int .i64 rd_, .slice qa ql qc, .slice la ll lc, .slice pa pl pc] 36)).heap.size v rec)) ⟨HBX, HCC, HB0, HO0⟩ ?_
  clear HBX HCC HB0 HO0 e0 e1 e2 e3 e4 e5 e6 e7 e8 e9 e10 e11 e12 e13
  rintro W1 ⟨HBX, HCC, HB0, HO0⟩
  have eS0 : W1.cell? ⟨W.heap.size, 0, none⟩ = some (.int .i64 k) := HBX.out.cell rfl
  have eS1 : W1.cell? ⟨W.heap.size, 1, none⟩ = some (.int .i64 w) := HBX.out.cell rfl
  have eS2 : W1.cell? ⟨W.heap.size, 2, none⟩ = some (.int .i64 s) := HBX.out.cell rfl
  have eS3 : W1.cell? ⟨W.heap.size, 3, none⟩ = some (.int .i64 c) := HBX.out.cell rfl
  have eS4 : W1.cell? ⟨W.heap.size, 4, none⟩ = some (.int .u32 st) := HBX.out.cell rfl
  have eS5 : W1.cell? ⟨W.heap.size, 5, none⟩ = some (.slice ia il ic) := HBX.out.cell rfl
  have eS6 : W1.cell? ⟨W.heap.size, 6, none⟩ = some (.int .i64 wri) := HBX.out.cell rfl
  have eS7 : W1.cell? ⟨W.heap.size, 7, none⟩ = some (.slice ra rl rc) := HBX.out.cell rfl
  have eS8 : W1.cell? ⟨W.heap.size, 8, none⟩ = some (.int .i64 at_) := HBX.out.cell rfl
  have eS9 : W1.cell? ⟨W.heap.size, 9, none⟩ = some (.int .i64 op) := HBX.out.cell rfl
  have eS10 : W1.cell? ⟨W.heap.size, 10, none⟩ = some (.int .i64 rd_) := HBX.out.cell rfl
  have eS11 : W1.cell? ⟨W.heap.size, 11, none⟩ = some (.slice qa ql qc) := HBX.out.cell rfl
  have eS12 : W1.cell? ⟨W.heap.size, 12, none⟩ = some (.slice la ll lc) := HBX.out.cell rfl
  have eS13 : W1.cell? ⟨W.heap.size, 13, none⟩ = some (.slice pa pl pc) := HBX.out.cell rfl
  have KEEP := Lib.hid (fun (V : World) (h : Chg [] W1 V) => (⟨h.keep eS0 (by simp), h.keep eS1 (by simp), h.keep eS2 (by simp), h.keep eS3 (by simp), h.keep eS4 (by simp), h.keep eS5 (by simp), h.keep eS6 (by simp), h.keep eS7 (by simp), h.keep eS8 (by simp), h.keep eS9 (by simp), h.keep eS10 (by simp), h.keep eS11 (by simp), h.keep eS12 (by simp), h.keep eS13 (by simp), Lib.hid h⟩ : (fun V : World => V.cell? ⟨W.heap.size, 0, none⟩ = some (.int .i64 k) ∧ V.cell? ⟨W.heap.size, 1, none⟩ = some (.int .i64 w) ∧ V.cell? ⟨W.heap.size, 2, none⟩ = some (.int .i64 s) ∧ V.cell? ⟨W.heap.size, 3, none⟩ = some (.int .i64 c) ∧ V.cell? ⟨W.heap.size, 4, none⟩ = some (.int .u32 st) ∧ V.cell? ⟨W.heap.size, 5, none⟩ = some (.slice ia il ic) ∧ V.cell? ⟨W.heap.size, 6, none⟩ = some (.int .i64 wri) ∧ V.cell? ⟨W.heap.size, 7, none⟩ = some (.slice ra rl rc) ∧ V.cell? ⟨W.heap.size, 8, none⟩ = some (.int .i64 at_) ∧ V.cell? ⟨W.heap.size, 9, none⟩ = some (.int .i64 op) ∧ V.cell? ⟨W.heap.size, 10, none⟩ = some (.int .i64 rd_) ∧ V.cell? ⟨W.heap.size, 11, none⟩ = some (.slice qa ql qc) ∧ V.cell? ⟨W.heap.size, 12, none⟩ = some (.slice la ll lc) ∧ V.cell? ⟨W.heap.size, 13, none⟩ = some (.slice pa pl pc) ∧ Hid (Chg [] W1 V)) V))
  clear eS0 eS1 eS2 eS3 eS4 eS5 eS6 eS7 eS8 eS9 eS10 eS11 eS12 eS13
  have hHeld : (fun V : World => V.cell? ⟨W.heap.size, 0, none⟩ = some (.int .i64 k) ∧ V.cell? ⟨W.heap.size, 1, none⟩ = some (.int .i64 w) ∧ V.cell? ⟨W.heap.size, 2, none⟩ = some (.int .i64 s) ∧ V.cell? ⟨W.heap.size, 3, none⟩ = some (.int .i64 c) ∧ V.cell? ⟨W.heap.size, 4, none⟩ = some (.int .u32 st) ∧ V.cell? ⟨W.heap.size, 5, none⟩ = some (.slice ia il ic) ∧ V.cell? ⟨W.heap.size, 6, none⟩ = some (.int .i64 wri) ∧ V.cell? ⟨W.heap.size, 7, none⟩ = some (.slice ra rl rc) ∧ V.cell? ⟨W.heap.size, 8, none⟩ = some (.int .i64 at_) ∧ V.cell? ⟨W.heap.size, 9, none⟩ = some (.int .i64 op) ∧ V.cell? ⟨W.heap.size, 10, none⟩ = some (.int .i64 rd_) ∧ V.cell? ⟨W.heap.size, 11, none⟩ = some (.slice qa ql qc) ∧ V.cell? ⟨W.heap.size, 12, none⟩ = some (.slice la ll lc) ∧ V.cell? ⟨W.heap.size, 13, none⟩ = some (.slice pa pl pc) ∧ Hid (Chg [] W1 V)) (World.drew W1) := KEEP.out _ (Chg.refl _ _).drew
  refine wp_region_plan (fun V : World => V.cell? ⟨W.heap.size, 0, none⟩ = some (.int .i64 k) ∧ V.cell? ⟨W.heap.size, 1, none⟩ = some (.int .i64 w) ∧ V.cell? ⟨W.heap.size, 2, none⟩ = some (.int .i64 s) ∧ V.cell? ⟨W.heap.size, 3, none⟩ = some (.int .i64 c) ∧ V.cell? ⟨W.heap.size, 4, none⟩ = some (.int .u32 st) ∧ V.cell? ⟨W.heap.size, 5, none⟩ = some (.slice ia il ic) ∧ V.cell? ⟨W.heap.size, 6, none⟩ = some (.int .i64 wri) ∧ V.cell? ⟨W.heap.size, 7, none⟩ = some (.slice ra rl rc) ∧ V.cell? ⟨W.heap.size, 8, none⟩ = some (.int .i64 at_) ∧ V.cell? ⟨W.heap.size, 9, none⟩ = some (.int .i64 op) ∧ V.cell? ⟨W.heap.size, 10, none⟩ = some (.int .i64 rd_) ∧ V.cell? ⟨W.heap.size, 11, none⟩ = some (.slice qa ql qc) ∧ V.cell? ⟨W.heap.size, 12, none⟩ = some (.slice la ll lc) ∧ V.cell? ⟨W.heap.size, 13, none⟩ = some (.slice pa pl pc) ∧ Hid (Chg [] W1 V)) [(0, true, some 27), (1, true, some 28), (2, true, some 29), (3, true, some 30), (4, true, some 31), (5, true, some 32), (6, true, some 33), (7, true, some 34), (8, true, some 35), (9, true, some 36), (10, true, some 37), (11, true, some 38), (12, true, some 39), (13, true, some 40), (14, true, some 41), (15, true, some 42), (16, true, some 43), (18, true, some 45), (19, true, some 46), (20, true, some 47), (21, true, some 48), (22, true, some 49), (23, true, some 50), (17, false, some 44), (24, true, some 51), (25, true, some 52)] (by kernel_rfl) (by kernel_rfl) (by kernel_rfl) (by kernel_rfl) (fun d c a v w h => by cases d <;> exact h) hHeld ?_
  repeat (first
    | (refine planWp_read (v := ?_) rfl rfl ?_ ?_ ?_; rotate_left; (focus rfl); (focus (intro u hSw; (try dsimp only at hSw); go_simp; (try with_reducible rfl))); (try simp only [Act.put, List.setIfInBounds_toArray, List.set_cons_zero, List.set_cons_succ]))
    | (refine planWp_skip rfl rfl ?_ ?_; (focus rfl); (try simp only [Act.put, List.setIfInBounds_toArray, List.set_cons_zero, List.set_cons_succ]))
    | (refine planWp_leave rfl rfl ?_ hHeld ?_; (focus rfl); (try simp only [Act.put, List.setIfInBounds_toArray, List.set_cons_zero, List.set_cons_succ]))
    | (refine planWp_do rfl rfl ?_ (fun K hK => ?_); (focus rfl); go_simp; (try go_wp2_with (go_at_call 26; refine (HSZ.out _).mono ?_; rintro e wx ⟨rfl, hcx⟩; have HCX := Lib.hid hcx; clear hcx)); refine hK.out _ _ ?_ (fun hHeld2 => ?_); (focus (exact KEEP.out _ (Chg.trans hHeld.2.2.2.2.2.2.2.2.2.2.2.2.2.2.out HCX.out))); clear hK K hHeld; have hHeld := hHeld2; clear hHeld2; (try simp only [Act.put, List.setIfInBounds_toArray, List.set_cons_zero, List.set_cons_succ])))
  refine planWp_nil ?_
  have HR4 := Lib.hid hHeld.2.2.2.2.2.2.2.2.2.2.2.2.2.2.out
  clear hHeld KEEP
  refine rop.then_gen (R := fun V => Hid (Blk V W.heap.size #[.int .i64 k, .int .i64 w, .int .i64 s, .int .i64 c, .int .u32 st, .slice ia il ic, .int .i64 wri, .slice ra rl rc, .int .i64 at_, .int .i64 op, .int .i64 rd_, .slice qa ql qc, .slice la ll lc, .slice pa pl pc] 36) ∧ Hid (Chg [] (W.alloc (.cells #[.int .i64 k, .int .i64 w, .int .i64 s, .int .i64 c, .int .u32 st, .slice ia il ic, .int .i64 wri, .slice ra rl rc, .int .i64 at_, .int .i64 op, .int .i64 rd_, .slice qa ql qc, .slice la ll lc, .slice pa pl pc] 36)) V) ∧ Hid (Blk V bx (({ k := k, w := w, s := s, c := c, st := st, ia := ia, il := il, ic := ic, wr := wri, ra := ra, rl := rl, rc := rc, op := op, reader := rd_, phase := 0, i := 0, tries := 0, a := 0, b := 0, used := 0, m := .pointer none, base := at_, size := (N : Int), code := 0, steps := 0, over := false } : Core).cells v) 83) ∧ Hid (OwnW V (W.alloc (.cells #[.int .i64 k, .int .i64 w, .int .i64 s, .int .i64 c, .int .u32 st, .slice ia il ic, .int .i64 wri, .slice ra rl rc, .int .i64 at_, .int .i64 op, .int .i64 rd_, .slice qa ql qc, .slice la ll lc, .slice pa pl pc] 36)).heap.size v rec)) ⟨Lib.hid (HBX.out.keep HR4.out (by simp)), Lib.hid (HCC.out.trans HR4.out), Lib.hid (HB0.out.keep HR4.out (by simp)), Lib.hid (mem.own_chg HO0.out HR4.out (by simp))⟩ ?_
  clear HBX HCC HB0 HO0 HR4 hA hB hw
  rintro W2 ⟨HBX, HCC, HB0, HO0⟩
  have e0 : W2.cell? ⟨W.heap.size, 0, none⟩ = some (.int .i64 k) := HBX.out.cell rfl
  have e1 : W2.cell? ⟨W.heap.size, 1, none⟩ = some (.int .i64 w) := HBX.out.cell rfl
  have e2 : W2.cell? ⟨W.heap.size, 2, none⟩ = some (.int .i64 s) := HBX.out.cell rfl
  have e3 : W2.cell? ⟨W.heap.size, 3, none⟩ = some (.int .i64 c) := HBX.out.cell rfl
  have e4 : W2.cell? ⟨W.heap.size, 4, none⟩ = some (.int .u32 st) := HBX.out.cell rfl
  have e5 : W2.cell? ⟨W.heap.size, 5, none⟩ = some (.slice ia il ic) := HBX.out.cell rfl
  have e6 : W2.cell? ⟨W.heap.size, 6, none⟩ = some (.int .i64 wri) := HBX.out.cell rfl
  have e7 : W2.cell? ⟨W.heap.size, 7, none⟩ = some (.slice ra rl rc) := HBX.out.cell rfl
  have e8 : W2.cell? ⟨W.heap.size, 8, none⟩ = some (.int .i64 at_) := HBX.out.cell rfl
  have e9 : W2.cell? ⟨W.heap.size, 9, none⟩ = some (.int .i64 op) := HBX.out.cell rfl
  have e10 : W2.cell? ⟨W.heap.size, 10, none⟩ = some (.int .i64 rd_) := HBX.out.cell rfl
  have e11 : W2.cell? ⟨W.heap.size, 11, none⟩ = some (.slice qa ql qc) := HBX.out.cell rfl
  have e12 : W2.cell? ⟨W.heap.size, 12, none⟩ = some (.slice la ll lc) := HBX.out.cell rfl
  have e13 : W2.cell? ⟨W.heap.size, 13, none⟩ = some (.slice pa pl pc) := HBX.out.cell rfl
  go_wp2_with (first
    | (go_at_call 32; refine (Memory_ok _ l _ (HLR.out.chg (HCA.out.trans HCC.out)) (by have := HSP.out; omega)).mono ?_; rintro e w4 ⟨mb, sv, rfl, hm4, hc4, hb4, hs4⟩; have HP : Hid (Pair 83 bx mb sv w4 ({ k := k, w := w, s := s, c := c, st := st, ia := ia, il := il, ic := ic, wr := wri, ra := ra, rl := rl, rc := rc, op := op, reader := rd_, phase := 0, i := 0, tries := 0, a := 0, b := 0, used := 0, m := .pointer none, base := at_, size := (N : Int), code := 0, steps := 0, over := false } : Core) v rec l 0) := Lib.hid (Pair.make HB0.out HO0.out HV0.out HREC.out.2 HRL.out hc4 hm4 hb4 hs4); have HV4 : Hid (OwnW w4 (W.alloc (.cells #[.int .i64 k, .int .i64 w, .int .i64 s, .int .i64 c, .int .u32 st, .slice ia il ic, .int .i64 wri, .slice ra rl rc, .int .i64 at_, .int .i64 op, .int .i64 rd_, .slice qa ql qc, .slice la ll lc, .slice pa pl pc] 36)).heap.size v rec) := Lib.hid (mem.own_chg HO0.out hc4 (by simp)); have HC4 : Hid (Chg [] (W.alloc (.cells #[.int .i64 k, .int .i64 w, .int .i64 s, .int .i64 c, .int .u32 st, .slice ia il ic, .int .i64 wri, .slice ra rl rc, .int .i64 at_, .int .i64 op, .int .i64 rd_, .slice qa ql qc, .slice la ll lc, .slice pa pl pc] 36)) w4) := Lib.hid (HCC.out.trans hc4); have HP4 := HP; have HF4 : Hid ((W.alloc (.cells #[.int .i64 k, .int .i64 w, .int .i64 s, .int .i64 c, .int .u32 st, .slice ia il ic, .int .i64 wri, .slice ra rl rc, .int .i64 at_, .int .i64 op, .int .i64 rd_, .slice qa ql qc, .slice la ll lc, .slice pa pl pc] 36)).heap.size ≤ mb ∧ ∀ y, sv.ownBlock = some y → (W.alloc (.cells #[.int .i64 k, .int .i64 w, .int .i64 s, .int .i64 c, .int .u32 st, .slice ia il ic, .int .i64 wri, .slice ra rl rc, .int .i64 at_, .int .i64 op, .int .i64 rd_, .slice qa ql qc, .slice la ll lc, .slice pa pl pc] 36)).heap.size ≤ y) := Lib.hid ⟨Nat.le_trans HCC.out.size hb4, fun y hy => Nat.le_trans HCC.out.size (hs4 y hy)⟩; have HCC := Lib.hid (HCC.out.trans hc4); have HBX := Lib.hid (HBX.out.keep hc4 (by simp)); clear hm4 hc4 hb4 hs4 e0 e1 e2 e3 e4 e5 e6 e7 e8 e9 e10 e11 e12 e13; have e0 : w4.cell? ⟨W.heap.size, 0, none⟩ = some (.int .i64 k) := HBX.out.cell rfl; have e1 : w4.cell? ⟨W.heap.size, 1, none⟩ = some (.int .i64 w) := HBX.out.cell rfl; have e2 : w4.cell? ⟨W.heap.size, 2, none⟩ = some (.int .i64 s) := HBX.out.cell rfl; have e3 : w4.cell? ⟨W.heap.size, 3, none⟩ = some (.int .i64 c) := HBX.out.cell rfl; have e4 : w4.cell? ⟨W.heap.size, 4, none⟩ = some (.int .u32 st) := HBX.out.cell rfl; have e5 : w4.cell? ⟨W.heap.size, 5, none⟩ = some (.slice ia il ic) := HBX.out.cell rfl; have e6 : w4.cell? ⟨W.heap.size, 6, none⟩ = some (.int .i64 wri) := HBX.out.cell rfl; have e7 : w4.cell? ⟨W.heap.size, 7, none⟩ = some (.slice ra rl rc) := HBX.out.cell rfl; have e8 : w4.cell? ⟨W.heap.size, 8, none⟩ = some (.int .i64 at_) := HBX.out.cell rfl; have e9 : w4.cell? ⟨W.heap.size, 9, none⟩ = some (.int .i64 op) := HBX.out.cell rfl; have e10 : w4.cell? ⟨W.heap.size, 10, none⟩ = some (.int .i64 rd_) := HBX.out.cell rfl; have e11 : w4.cell? ⟨W.heap.size, 11, none⟩ = some (.slice qa ql qc) := HBX.out.cell rfl; have e12 : w4.cell? ⟨W.heap.size, 12, none⟩ = some (.slice la ll lc) := HBX.out.cell rfl; have e13 : w4.cell? ⟨W.heap.size, 13, none⟩ = some (.slice pa pl pc) := HBX.out.cell rfl; have e12a : (w4.alloc (.cells #[] 22)).cell? ⟨W.heap.size, 12, none⟩ = some (.slice la ll lc) := ((Chg.refl [] w4).alloc _).keep e12 (by simp))
    | ((with_reducible show wpList _ _ _ (⟨some 72, _, _, _, _, _⟩ :: _) _ _); refine wpList_append_any (o := ⟨some 72, _, _, _, _, _⟩) _ rfl (.tmp 69) (.tmp 71) 23 rfl w4.heap.size 22 i0 (.int .u32 0) 1 4 Tryd.underlying23 HI0.out.1 HI0.out.2.1 HI0.out.2.2.1 HI0.out.2.2.2 rfl (by decide) (.slice (some ⟨w4.heap.size, 0, none⟩) 0 0) 0 [] rfl (World.ownsRow_lit w4 #[] 0 (Nat.le_refl _) (Nat.zero_le _) rfl) (.slice la ll lc) l.length _ rfl ((HLR.out.chg (HCA.out.trans HCC.out)).1.alloc _) (ints_oneCell _ _) (by have := HSP.out; unfold maxLen; omega) (by have := HSP.out; omega) (by simp) ?_; intro v2 w6 hown2 hg2; simp only [Nat.zero_add, List.nil_append] at hown2; have hc2 : Chg [] w4 w6 := ((Chg.refl _ _).alloc _).grown hg2 (by simp [Value.ownBlock]); clear hg2; obtain ⟨a2, cc2, rfl, _⟩ := reads_slice (Reads.of_own hown2 (by decide)); have HO2 : Hid (OwnW w6 w4.heap.size (.slice a2 l.length cc2) l) := Lib.hid hown2; have HC46 := Lib.hid hc2; have HCC := Lib.hid (HCC.out.trans hc2); have HBX := Lib.hid (HBX.out.keep hc2 (by simp)); clear hc2 hown2 e12a e0 e1 e2 e3 e4 e5 e6 e7 e8 e9 e10 e11 e12 e13; have e0 : w6.cell? ⟨W.heap.size, 0, none⟩ = some (.int .i64 k) := HBX.out.cell rfl; have e1 : w6.cell? ⟨W.heap.size, 1, none⟩ = some (.int .i64 w) := HBX.out.cell rfl; have e2 : w6.cell? ⟨W.heap.size, 2, none⟩ = some (.int .i64 s) := HBX.out.cell rfl; have e3 : w6.cell? ⟨W.heap.size, 3, none⟩ = some (.int .i64 c) := HBX.out.cell rfl; have e4 : w6.cell? ⟨W.heap.size, 4, none⟩ = some (.int .u32 st) := HBX.out.cell rfl; have e5 : w6.cell? ⟨W.heap.size, 5, none⟩ = some (.slice ia il ic) := HBX.out.cell rfl; have e6 : w6.cell? ⟨W.heap.size, 6, none⟩ = some (.int .i64 wri) := HBX.out.cell rfl; have e7 : w6.cell? ⟨W.heap.size, 7, none⟩ = some (.slice ra rl rc) := HBX.out.cell rfl; have e8 : w6.cell? ⟨W.heap.size, 8, none⟩ = some (.int .i64 at_) := HBX.out.cell rfl; have e9 : w6.cell? ⟨W.heap.size, 9, none⟩ = some (.int .i64 op) := HBX.out.cell rfl; have e10 : w6.cell? ⟨W.heap.size, 10, none⟩ = some (.int .i64 rd_) := HBX.out.cell rfl; have e11 : w6.cell? ⟨W.heap.size, 11, none⟩ = some (.slice qa ql qc) := HBX.out.cell rfl; have e12 : w6.cell? ⟨W.heap.size, 12, none⟩ = some (.slice la ll lc) := HBX.out.cell rfl; have e13 : w6.cell? ⟨W.heap.size, 13, none⟩ = some (.slice pa pl pc) := HBX.out.cell rfl)
    | (go_at_call 28; refine (HBN.out _).mono ?_; rintro e w7 ⟨rfl, hc7⟩; have HC47 := Lib.hid (HC46.out.trans hc7); have HO2 := Lib.hid (mem.own_chg HO2.out hc7 (by simp)); have HCC := Lib.hid (HCC.out.trans hc7); have HBX := Lib.hid (HBX.out.keep hc7 (by simp)); clear hc7 e0 e1 e2 e3 e4 e5 e6 e7 e8 e9 e10 e11 e12 e13; have e0 : w7.cell? ⟨W.heap.size, 0, none⟩ = some (.int .i64 k) := HBX.out.cell rfl; have e1 : w7.cell? ⟨W.heap.size, 1, none⟩ = some (.int .i64 w) := HBX.out.cell rfl; have e2 : w7.cell? ⟨W.heap.size, 2, none⟩ = some (.int .i64 s) := HBX.out.cell rfl; have e3 : w7.cell? ⟨W.heap.size, 3, none⟩ = some (.int .i64 c) := HBX.out.cell rfl; have e4 : w7.cell? ⟨W.heap.size, 4, none⟩ = some (.int .u32 st) := HBX.out.cell rfl; have e5 : w7.cell? ⟨W.heap.size, 5, none⟩ = some (.slice ia il ic) := HBX.out.cell rfl; have e6 : w7.cell? ⟨W.heap.size, 6, none⟩ = some (.int .i64 wri) := HBX.out.cell rfl; have e7 : w7.cell? ⟨W.heap.size, 7, none⟩ = some (.slice ra rl rc) := HBX.out.cell rfl; have e8 : w7.cell? ⟨W.heap.size, 8, none⟩ = some (.int .i64 at_) := HBX.out.cell rfl; have e9 : w7.cell? ⟨W.heap.size, 9, none⟩ = some (.int .i64 op) := HBX.out.cell rfl; have e10 : w7.cell? ⟨W.heap.size, 10, none⟩ = some (.int .i64 rd_) := HBX.out.cell rfl; have e11 : w7.cell? ⟨W.heap.size, 11, none⟩ = some (.slice qa ql qc) := HBX.out.cell rfl; have e12 : w7.cell? ⟨W.heap.size, 12, none⟩ = some (.slice la ll lc) := HBX.out.cell rfl; have e13 : w7.cell? ⟨W.heap.size, 13, none⟩ = some (.slice pa pl pc) := HBX.out.cell rfl))
  have HD0 : Hid (Duo 83 (W.alloc (.cells #[.int .i64 k, .int .i64 w, .int .i64 s, .int .i64 c, .int .u32 st, .slice ia il ic, .int .i64 wri, .slice ra rl rc, .int .i64 at_, .int .i64 op, .int .i64 rd_, .slice qa ql qc, .slice la ll lc, .slice pa pl pc] 36)) bx mb sv (.slice a2 l.length cc2) w7 ({ k := k, w := w, s := s, c := c, st := st, ia := ia, il := il, ic := ic, wr := wri, ra := ra, rl := rl, rc := rc, op := op, reader := rd_, phase := 0, i := 0, tries := 0, a := 0, b := 0, used := 0, m := .pointer none, base := at_, size := (N : Int), code := 0, steps := 0, over := false } : Core) rec l l 0) := Lib.hid (Duo.make HP4.out HC4.out HX0.out HF4.out.1 HF4.out.2 HV4.out HO2.out HC47.out)
  have HB7 := HBX
  have HIN0 : Hid (chen.K.Shape ({ k := k, w := w, s := s, c := c, st := st, ia := ia, il := il, ic := ic, wr := wri, ra := ra, rl := rl, rc := rc, op := op, reader := rd_, phase := 0, i := 0, tries := 0, a := 0, b := 0, used := 0, m := .pointer none, base := at_, size := (N : Int), code := 0, steps := 0, over := false } : Core) rec ∧ chen.K.left ({ k := k, w := w, s := s, c := c, st := st, ia := ia, il := il, ic := ic, wr := wri, ra := ra, rl := rl, rc := rc, op := op, reader := rd_, phase := 0, i := 0, tries := 0, a := 0, b := 0, used := 0, m := .pointer none, base := at_, size := (N : Int), code := 0, steps := 0, over := false } : Core) + ((0 : Nat) : Int) ≤ (mo : Int) ∧ (({ k := k, w := w, s := s, c := c, st := st, ia := ia, il := il, ic := ic, wr := wri, ra := ra, rl := rl, rc := rc, op := op, reader := rd_, phase := 0, i := 0, tries := 0, a := 0, b := 0, used := 0, m := .pointer none, base := at_, size := (N : Int), code := 0, steps := 0, over := false } : Core)).steps = ((0 : Nat) : Int) ∧ (({ k := k, w := w, s := s, c := c, st := st, ia := ia, il := il, ic := ic, wr := wri, ra := ra, rl := rl, rc := rc, op := op, reader := rd_, phase := 0, i := 0, tries := 0, a := 0, b := 0, used := 0, m := .pointer none, base := at_, size := (N : Int), code := 0, steps := 0, over := false } : Core)).base = at_ ∧ (({ k := k, w := w, s := s, c := c, st := st, ia := ia, il := il, ic := ic, wr := wri, ra := ra, rl := rl, rc := rc, op := op, reader := rd_, phase := 0, i := 0, tries := 0, a := 0, b := 0, used := 0, m := .pointer none, base := at_, size := (N : Int), code := 0, steps := 0, over := false } : Core)).size = (N : Int) ∧ (l.length = ll ∧ l.length = ll) ∧ (0 : Int) ≤ 0 ∧ (0 : Int) ≤ 101 * ((0 : Nat) : Int)) := Lib.hid ⟨HST.out.1, by rw [HST.out.2.1, HMO.out]; omega, rfl, rfl, rfl, ⟨HSP.out.2.1.symm, HSP.out.2.1.symm⟩, by omega, by omega⟩
  obtain ⟨x0, hx0⟩ : ∃ x0 : Core, ({ k := k, w := w, s := s, c := c, st := st, ia := ia, il := il, ic := ic, wr := wri, ra := ra, rl := rl, rc := rc, op := op, reader := rd_, phase := 0, i := 0, tries := 0, a := 0, b := 0, used := 0, m := .pointer none, base := at_, size := (N : Int), code := 0, steps := 0, over := false } : Core) = x0 := ⟨_, rfl⟩
  rw [hx0] at HD0 HIN0
  clear hx0 HBX HCC HP HB0 HO0 HP4 e0 e1 e2 e3 e4 e5 e6 e7 e8 e9 e10 e11 e12 e13
  go_wp2_with fail
  go_loopw [8] (fun i wr => ∃ (t : Nat) (y : Core) (rc_ ws ls : List Int) (n : Int), t ≤ mo ∧ i = .int .i64 t ∧ Hid (Duo 83 (W.alloc (.cells #[.int .i64 k, .int .i64 w, .int .i64 s, .int .i64 c, .int .u32 st, .slice ia il ic, .int .i64 wri, .slice ra rl rc, .int .i64 at_, .int .i64 op, .int .i64 rd_, .slice qa ql qc, .slice la ll lc, .slice pa pl pc] 36)) bx mb sv (.slice a2 l.length cc2) wr y rc_ ws ls n) ∧ Hid (chen.K.Shape y rc_ ∧ chen.K.left y + (t : Int) ≤ (mo : Int) ∧ y.steps = (t : Int) ∧ y.base = at_ ∧ y.size = (N : Int) ∧ (ws.length = ll ∧ ls.length = ll) ∧ 0 ≤ n ∧ n ≤ 101 * (t : Int))) (fun i _ => mo - (intOf i).toNat)
  case atStart => exact ⟨0, x0, rec, l, l, 0, Nat.zero_le _, rfl, HD0, HIN0⟩
  case round =>
    obtain ⟨t, y, rc_, ws, ls, n, ht, rfl, HD, HIN⟩ := hrel
    have HB : Hid (Blk wr W.heap.size #[.int .i64 k, .int .i64 w, .int .i64 s, .int .i64 c, .int .u32 st, .slice ia il ic, .int .i64 wri, .slice ra rl rc, .int .i64 at_, .int .i64 op, .int .i64 rd_, .slice qa ql qc, .slice la ll lc, .slice pa pl pc] 36) := Lib.hid ((Blk.new W _ _).keep HD.out.chg (by simp))
    clear HD0 HIN0 HB7
    obtain ⟨v0, hst0⟩ := HD.out.st
    have HST0 := Lib.hid hst0
    clear hst0
    have hmo0 : (0 : Int) < (mo : Int) := by have := HFIT.out; omega
    by_cases hlt : t < mo
    · have hltI : (t : Int) < (mo : Int) := by omega
      have HLT := Lib.hid hlt
      cases hov : y.over
      · have HOV := Lib.hid hov
        have HOP : Hid (core.opens y (pokeL t ps ws).length = true) := Lib.hid (by
          have h1 := HIN.out; have h2 := HFIT.out
          rw [pokeL_length, opens_iff (by omega) (by omega) (by rw [h1.2.2.2.1, h1.2.2.2.2.1, h1.2.2.2.2.2.1.1]; omega), HOV.out]; rfl)
        clear hov ht hlt
        have e0 : wr.cell? ⟨W.heap.size, 0, none⟩ = some (.int .i64 k) := HB.out.cell rfl
        have e1 : wr.cell? ⟨W.heap.size, 1, none⟩ = some (.int .i64 w) := HB.out.cell rfl
        have e2 : wr.cell? ⟨W.heap.size, 2, none⟩ = some (.int .i64 s) := HB.out.cell rfl
        have e3 : wr.cell? ⟨W.heap.size, 3, none⟩ = some (.int .i64 c) := HB.out.cell rfl
        have e4 : wr.cell? ⟨W.heap.size, 4, none⟩ = some (.int .u32 st) := HB.out.cell rfl
        have e5 : wr.cell? ⟨W.heap.size, 5, none⟩ = some (.slice ia il ic) := HB.out.cell rfl
        have e6 : wr.cell? ⟨W.heap.size, 6, none⟩ = some (.int .i64 wri) := HB.out.cell rfl
        have e7 : wr.cell? ⟨W.heap.size, 7, none⟩ = some (.slice ra rl rc) := HB.out.cell rfl
        have e8 : wr.cell? ⟨W.heap.size, 8, none⟩ = some (.int .i64 at_) := HB.out.cell rfl
        have e9 : wr.cell? ⟨W.heap.size, 9, none⟩ = some (.int .i64 op) := HB.out.cell rfl
        have e10 : wr.cell? ⟨W.heap.size, 10, none⟩ = some (.int .i64 rd_) := HB.out.cell rfl
        have e11 : wr.cell? ⟨W.heap.size, 11, none⟩ = some (.slice qa ql qc) := HB.out.cell rfl
        have e12 : wr.cell? ⟨W.heap.size, 12, none⟩ = some (.slice la ll lc) := HB.out.cell rfl
        have e13 : wr.cell? ⟨W.heap.size, 13, none⟩ = some (.slice pa pl pc) := HB.out.cell rfl
        have k9 : IntKind.i64.wrap ((t : Int) + 1) = (t : Int) + 1 := by have := HLT.out; have := HFIT.out; rw [IntKind.wrap_i64]; omega
        go_wp2_with (first
          | (go_at_call 40; refine (chen.Over_any HST0.out).mono ?_; rintro e w5 ⟨rfl, rfl⟩; rw [HOV.out])
          | (go_at_call 34; refine (Poked_any k w s c st ia il ic wri ra rl rc at_ op rd_ qa ql qc la ll lc pa pl pc t mb sv (.slice a2 l.length cc2) ps ws ls n _ (HPS.out.chg (HCA.out.trans HD.out.chg)) (by have := HSP.out; omega) HD.out.memory HD.out.row (by have := HIN.out; omega) (by have := HIN.out; have := HSP.out; omega) (by have h1 := HIN.out; have h2 := HLT.out; have h3 := HFIT.out; omega) (fun z hz => ⟨(HD.out.fl z hz).2.2.1, (HD.out.fl z hz).2.2.2⟩) (fun hpl z hz => HD.out.far (by have h1 := ReadsP.lt HPS.out (by have := HPN.out; omega) z hz; have h0 := HCA.out.size; omega))).mono ?_; rintro e w6 ⟨rfl, n6, hn6, hm6, hl6, hc6⟩; have HD6 := Lib.hid (HD.out.poke hm6 hl6 hc6); have HN6 := Lib.hid hn6; clear hm6 hl6 hc6 hn6; obtain ⟨v6, hp6, hv6⟩ := HD6.out.pair; have HP6 := Lib.hid hp6; have HV6 := Lib.hid hv6; clear hp6 hv6)
          | (go_at_call 39; refine (chen.Step_yes (tabs HTA.out HD6.out.chg HD6.out.fb HD6.out.fm HD6.out.fs (fun y hy => (HV6.out y hy).1)) HIN.out.1 (by have h1 := HIN.out; have h2 := HLT.out; have h3 := HFIT.out; omega) HOP.out (by have h1 := HIN.out; have h2 := HLT.out; have h3 := HFIT.out; have h4 := HN6.out; omega) (St.start HP6.out)).mono ?_; rintro e w8 ⟨rfl, hx⟩; have HD8 := Lib.hid (HD6.out.after HV6.out hx); have HST8 := Lib.hid hx; clear hx; have hok := chen.K.ok (.pointer (some ⟨mb, 0, none⟩)) HIN.out.1 HOV.out HD6.out.memory.range; have HOK := Lib.hid hok; clear hok)
          | (go_at_call 41; refine (chen.Steps_any HST8.out).mono ?_; rintro e w9 ⟨rfl, rfl⟩; rw [show ((chen.step y (.pointer (some ⟨mb, 0, none⟩)) rc_ (pokeL t ps ws)).1.steps) = (t : Int) + 1 from HOK.out.2.2.1.trans (by rw [HIN.out.2.2.1])]))
        have hltj := HLT.out
        go_roundw
        case rel =>
          have h1 := HIN.out
          have h2 : chen.K.Shape (chen.step y (.pointer (some ⟨mb, 0, none⟩)) rc_ (pokeL t ps ws)).1 (chen.step y (.pointer (some ⟨mb, 0, none⟩)) rc_ (pokeL t ps ws)).2.1 ∧ chen.K.left (chen.step y (.pointer (some ⟨mb, 0, none⟩)) rc_ (pokeL t ps ws)).1 + 1 ≤ chen.K.left y ∧ (chen.step y (.pointer (some ⟨mb, 0, none⟩)) rc_ (pokeL t ps ws)).1.steps = y.steps + 1 ∧ (chen.step y (.pointer (some ⟨mb, 0, none⟩)) rc_ (pokeL t ps ws)).1.m = .pointer (some ⟨mb, 0, none⟩) ∧ (chen.step y (.pointer (some ⟨mb, 0, none⟩)) rc_ (pokeL t ps ws)).1.base = y.base ∧ (chen.step y (.pointer (some ⟨mb, 0, none⟩)) rc_ (pokeL t ps ws)).1.size = y.size := HOK.out
          refine ⟨t + 1, _, _, _, _, _, by omega, by go_num, HD8, Lib.hid ⟨h2.1, by have := h2.2.1; omega, by rw [h2.2.2.1]; omega, by rw [h2.2.2.2.2.1]; exact h1.2.2.2.1, by rw [h2.2.2.2.2.2]; exact h1.2.2.2.2.1, ⟨((chen.K.len _ _ _ _).trans (pokeL_length _ _ _)).trans h1.2.2.2.2.2.1.1, (pokeL_length _ _ _).trans h1.2.2.2.2.2.1.2⟩, by have := HN6.out; omega, by have := HN6.out; have := h1.2.2.2.2.2.2; push_cast; omega⟩⟩
        case measure => simp [intOf]; omega
      · have HOV := Lib.hid hov
        clear hov ht hlt
        have HOP : Hid (core.opens y ws.length = false) := Lib.hid (by unfold core.opens; rw [HOV.out]; rfl)
        go_wp2_with (first
          | (go_at_call 40; refine (chen.Over_any HST0.out).mono ?_; rintro e w5 ⟨rfl, rfl⟩; rw [HOV.out])
          | (go_at_call 39; refine (chen.Step_no HOP.out HST0.out).mono ?_; rintro e w5 ⟨rfl, hc5⟩; have HC5 := Lib.hid hc5; clear hc5)
          | (go_at_call 24; refine (chen.awake_any _ (HTA.out.keep (HD.out.chg.trans HC5.out))).mono ?_; rintro e wz ⟨rfl, hcz⟩; have HZ := Lib.hid hcz; clear hcz))
        go_ret
        exact ⟨rfl, (HCA.out.trans ((HD.out.chg.trans HC5.out).trans HZ.out)).below⟩
    · have HOV : Hid (y.over = true) := Lib.hid (by
        cases hov : y.over
        · have := chen.K.pos HIN.out.1 hov
          have := HIN.out
          omega
        · rfl)
      have hgeI : ¬ ((t : Int) < (mo : Int)) := by omega
      clear ht hlt
      have HOP : Hid (core.opens y ws.length = false) := Lib.hid (by unfold core.opens; rw [HOV.out]; rfl)
      go_wp2_with (first
        | (go_at_call 40; refine (chen.Over_any HST0.out).mono ?_; rintro e w5 ⟨rfl, rfl⟩; rw [HOV.out])
        | (go_at_call 39; refine (chen.Step_no HOP.out HST0.out).mono ?_; rintro e w5 ⟨rfl, hc5⟩; have HC5 := Lib.hid hc5; clear hc5)
        | (go_at_call 24; refine (chen.awake_any _ (HTA.out.keep (HD.out.chg.trans HC5.out))).mono ?_; rintro e wz ⟨rfl, hcz⟩; have HZ := Lib.hid hcz; clear hcz))
      go_ret
      exact ⟨rfl, (HCA.out.trans ((HD.out.chg.trans HC5.out).trans HZ.out)).below⟩
theorem own : ownKnob Tryd.prog.godebug = none := by kernel_rfl
theorem laidOut : laidOutB Tryd.prog = true := by kernel_rfl

/-- The walk: the law returns true, and nothing that was there has turned. -/
theorem walk (w : World) (hT : bitm.Tab w) (cs0 : Array Value) (hs0 : cs0.size = Tryd.prog.cellsOf 36) (o0 : kit.Opens Tryd.prog w 9 36 cs0.toList) :
    Calls Tryd.prog 7 #[.agg cs0] w fun e w' => e = .returned (.bool true) ∧ Below w.heap.size w w' := by
  set_option maxRecDepth 100000 in
  obtain ⟨k, w1, s, c, st, ia, il, ic, wri, ra, rl, rc, at_, op, rd_, qa, ql, qc, la, ll, lc, pa, pl, pc, hcs, hb, hat, hop, hrd, ⟨ini, hini⟩, ⟨rec, hrec⟩, ⟨l, hl⟩, ⟨ps, hps⟩⟩ := case_open (n := 4) o0
  have hcs2 : cs0 = #[.int .i64 k, .int .i64 w1, .int .i64 s, .int .i64 c, .int .u32 st, .slice ia il ic, .int .i64 wri, .slice ra rl rc, .int .i64 at_, .int .i64 op, .int .i64 rd_, .slice qa ql qc, .slice la ll lc, .slice pa pl pc] := by
    apply Array.toList_inj.1; rw [hcs]
  subst hcs2
  cases hL : lightB il rl ql ll pl
  · exact big k w1 s c st ia il ic wri ra rl rc at_ op rd_ qa ql qc la ll lc pa pl pc hL w hT
  · have hL2 := hL
    simp only [lightB, Bool.and_eq_true, decide_eq_true_eq] at hL2
    have hO := hb hL2.1.1.1.1 hL2.1.1.1.2
    have hrl : rec.length ≤ 1000 := by
      have e2 : ql = rec.length := by obtain ⟨_, _, he, _⟩ := reads_slice hrec.1; simp at he; exact he.2.1
      omega
    cases hR : (decide (k = 2) && rightB k w1 s c st il rl)
    · exact none_ k w1 s c st ia il ic wri ra rl rc at_ op rd_ qa ql qc la ll lc pa pl pc rec 0 hL (fun V => chen.Size_no k w1 s c st ia il ic wri ra rl rc hO hR V) (by unfold begI; rw [if_pos (.inl (by omega))]; omega) w hT hrec hrl
    · have hbd := rightB_bd (by simp only [Bool.and_eq_true] at hR; exact hR.2)
      obtain ⟨wN, hw⟩ : ∃ wN : Nat, w1 = (wN : Int) := ⟨w1.toNat, by omega⟩
      obtain ⟨N, hN⟩ : ∃ N : Nat, 1 + rl + (((rl : Int) + 2) * w1).toNat = N := ⟨_, rfl⟩
      by_cases hB : begI w1 rl (N : Int) at_ op rd_ 2 1 rec.length = 0
      · have hG : Given k w1 s c st ia il ic wri ra rl rc at_ op rd_ qa ql qc la ll lc pa pl pc N wN rec l ps w := ⟨hL, hO, hR, hw, hN.symm, hB, hrec, hl, hps, hat⟩
        by_cases h1 : (ll : Int) < at_
        · exact short k w1 s c st ia il ic wri ra rl rc at_ op rd_ qa ql qc la ll lc pa pl pc N wN rec l ps w hT hG (.inl h1)
        · by_cases h2 : (ll : Int) - at_ < (N : Int)
          · exact short k w1 s c st ia il ic wri ra rl rc at_ op rd_ qa ql qc la ll lc pa pl pc N wN rec l ps w hT hG (.inr h2)
          · exact fits k w1 s c st ia il ic wri ra rl rc at_ op rd_ qa ql qc la ll lc pa pl pc N wN rec l ps w hT hG h1 h2
      · exact none_ k w1 s c st ia il ic wri ra rl rc at_ op rd_ qa ql qc la ll lc pa pl pc rec N hL (fun V => by rw [← hN]; exact chen.Size_yes k w1 s c st ia il ic wri ra rl rc wN hw hO hR V) hB w hT hrec hrl

set_option maxRecDepth 100000 in
theorem lifted (os : Os) (started : os.Started) (H : Type) (enc : TypeId × Value → H) :
    ReturnsInHanded {} Tryd.checked os 7 .any (fun w args => (Rows.chenEndsSpec.pre enc Tryd.prog Tryd.f7 [] false w args ∧ laidMetH Tryd.prog bitm.laids w) ∧ sizedMet enc Tryd.prog Tryd.f7 (OpenSpec.ofChange Rows.chenEndsSpec) false w args) (Rows.chenEndsSpec.post enc Tryd.prog Tryd.f7 false true false false) := by
  refine returnsInHanded_of_change_and (C := Tryd.checked) (X := fun w _ => laidMetH Tryd.prog bitm.laids w) (fun _ _ _ hh h => h.of_heap hh) own started (by kernel_rfl) Tryd.func7
    (ChangeSpec.witness_shaped (enc := enc) (C := Tryd.checked) (os := os) (X := fun w _ => laidMetH Tryd.prog bitm.laids w) false (World.doorLaid Tryd.prog 14 os) #[.agg #[.int .i64 0, .int .i64 0, .int .i64 0, .int .i64 0, .int .u32 0, .slice none 0 0, .int .i64 0, .slice none 0 0, .int .i64 0, .int .i64 0, .int .i64 0, .slice none 0 0, .slice none 0 0, .slice none 0 0]] 8 rfl (World.shaped_of_RefB (by kernel_rfl) (by kernel_rfl)) (by kernel_rfl) (by kernel_rfl) (by kernel_rfl) (bitm.door_met os _)) ?_
  intro W base args ds gs before hval0 hW hcnd _ hL _
  have hval : ∀ (j : Nat) t v, Tryd.f7.params[j]? = some t → args[j]? = some v → Value.okWide Tryd.prog W .any base t v := hval0
  have hW' := hW
  obtain ⟨p, q, hA0, hV, rfl, hfz, hnd⟩ := hW
  have hA : DataW.TrodAll enc Tryd.prog W 0 (fun _ => true) true Tryd.f7.params.toList args.toList ds p := hA0
  rw [Tryd.params7] at hA hval
  obtain ⟨v0, vs0, d0, ds0, p0, q0, hargs, rfl, rfl, h0, r0⟩ := trodAll_cons hA
  obtain ⟨rfl, rfl, rfl⟩ := trodAll_nil r0
  obtain rfl : args = #[v0] := by cases args; simp_all
  obtain ⟨rfl, rfl⟩ := trodVars_none hV
  have k0 := h0
  have lt0 : ∀ x ∈ p0, x.block < W.heap.size := by obtain ⟨m, hm⟩ := k0; exact DataW.trod_lt m _ _ _ hm
  obtain ⟨cs0, rfl, hs0⟩ := okWide_struct Tryd.underlying36 (hval 0 36 v0 rfl rfl)
  have o0 : kit.Opens Tryd.prog W 9 36 cs0.toList := by simpa [Value.cells] using kit.Trod_opens 9 k0
  clear hA0 hval0
  refine (walk W (bitm.tab_of_laid hL) cs0 hs0 o0).mono fun e W' ⟨he, bel⟩ => ?_
  subst he
  exact ⟨_, rfl, _, _, _, [], _, [], hW', trodAll_mk1 (shut_bool Tryd.underlying4 _), (trodAll_cons_mk (Below.trod laidOut (by kernel_rfl) (of_decide_eq_true (by kernel_rfl)) k0 bel lt0) trodAll_mk0), rfl, bel.frame _, fun h => by cases h⟩

theorem over : Rows.chenEndsRow.holds Tryd.pinned (OpenSpec.ofChange Rows.chenEndsSpec) :=
  OpenClaim.holds_of_wide 7 Tryd.f7 rfl rfl rfl rfl rfl rfl rfl ⟨rfl, rfl, rfl, rfl, rfl⟩ rfl rfl rfl rfl rfl (by kernel_rfl) Tryd.func7 (by kernel_rfl)
    (of_decide_eq_true (by kernel_rfl)) (by unfold Func.isWrapper; first | (rw [if_pos (by decide +kernel)]; kernel_rfl) | (rw [if_neg (by decide +kernel)]; exact ⟨rfl, rfl⟩))
    (fun os started H enc _ => lifted os started H enc)

/-- The statement: the tied card. -/
theorem proved : Rows.ChenEndsCardSaid :=
  Claim7.holds_tied_plain_at .later [] [.data] true (true, "2e2be42b2330c043c67e7858dff84d72ae4a187c610b75565135d5b7ac40942f") false
    over (fun _ h => by cases h) (by kernel_rfl) (fun _ h => by cases h) chenEnds_row_tie rfl ⟨rfl, rfl⟩ (by kernel_rfl) rfl
    (fun f fn hf hfn => by
      obtain rfl : f = 7 := Option.some.inj ((show Tryd.prog.funcNamed "coxswain/coxswainlaw15.ChenEnds" = some 7 by kernel_rfl).symm.trans hf) |>.symm
      obtain rfl : fn = Tryd.f7 := (Option.some.inj (Tryd.func7.symm.trans hfn)).symm
      exact ⟨by kernel_rfl, fun j t ht => by
        rw [Tryd.params7] at ht
        have hm : t ∈ [36] := by simpa using Array.mem_of_getElem? ht
        have hall : ([36].all fun u => !Tryd.prog.wantsStandIn u) = true := by kernel_rfl
        exact (show Tryd.prog.wantsStandIn t = false by simpa using List.all_eq_true.1 hall t hm)⟩)
    (by kernel_rfl)
end Go.Proofs.YtapaolaemkhbdaaDoor.chenEnds
