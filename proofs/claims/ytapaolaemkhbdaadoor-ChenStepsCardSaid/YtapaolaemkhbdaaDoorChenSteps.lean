/-
  coxswainlaw15.ChenSteps returns true for every c: why an operation does not begin; else each of its steps on any memory, whatever others do in between, and how it ends, are the document's. No conditions.
-/
import Derived.Test.YtapaolaemkhbdaaDoorRows
import Derived.WalkKit
import Derived.ProofKit
import Derived.OpenShut
import Derived.ShutString
import Derived.ChangeOld
import Derived.Below
import Derived.Test.YtapaolaemkhbdaaDoorOpen
import Derived.Test.YtapaolaemkhbdaaDoorTab2
import Derived.Test.YtapaolaemkhbdaaDoorCards
import Derived.Test.YtapaolaemkhbdaaDoorTie
import Derived.SevenTiedAt
import Derived.Stop.Joined
import Derived.Test.YtapaolaemkhbdaaDoorChen4
import Derived.Test.YtapaolaemkhbdaaDoorSimN
import Derived.Test.YtapaolaemkhbdaaDoorLawB
import Derived.Deep.CutBlock
namespace Go.Proofs.YtapaolaemkhbdaaDoor.chenSteps
open Go.ChangeShapes Go.WideShapes Go.ChangeAt Go.RowKit
open Go.ChangeMaps (open_string shut_string)
set_option linter.unusedVariables false
open Go.Proofs.YtapaolaemkhbdaaDoor.kit Go.Proofs.YtapaolaemkhbdaaDoor.obj Go.Proofs.YtapaolaemkhbdaaDoor.mem Go.Proofs.YtapaolaemkhbdaaDoor.core
set_option linter.unusedSimpArgs false
set_option maxRecDepth 100000
/-- the table lies where it was laid, wherever an operation goes on whose blocks are new -/
theorem tabs {T : TypeId} {bx mb : Nat} {sv r0 : Value} {W0 B : World} (hT : bitm.Tab B) (hc : Chg [] B W0) (h1 : B.heap.size ≤ bx) (h2 : B.heap.size ≤ mb) (h3 : ∀ y, sv.ownBlock = some y → B.heap.size ≤ y) (h4 : ∀ y, r0.ownBlock = some y → B.heap.size ≤ y) :
    ∀ V x' rec' ws' n', St T bx mb sv W0 r0 V x' rec' ws' n' → bitm.Tab V := by
  have hp := hT.pos
  exact St.tab (hT.keep hc) (by omega) (by omega) (fun hh => by have := h3 0 hh; omega) (fun hh => by have := h4 0 hh; omega)
set_option maxHeartbeats 4000000 in
theorem big (k w s c st : Int) (ia : Option Addr) (il ic : Nat) (wri : Int) (ra : Option Addr) (rl rc : Nat) (at_ op rd_ : Int) (qa : Option Addr) (ql qc : Nat) (la : Option Addr) (ll lc : Nat) (pa : Option Addr) (pl pc : Nat) (hl : lightB il rl ql ll pl = false) (W : World) (hT : bitm.Tab W) :
    Calls Tryd.prog 11 #[.agg #[.int .i64 k, .int .i64 w, .int .i64 s, .int .i64 c, .int .u32 st, .slice ia il ic, .int .i64 wri, .slice ra rl rc, .int .i64 at_, .int .i64 op, .int .i64 rd_, .slice qa ql qc, .slice la ll lc, .slice pa pl pc]] W fun e W' => e = .returned (.bool true) ∧ Below W.heap.size W W' := by
  have HL := Lib.hid hl
  clear hl
  have HBX : Hid (Blk (W.alloc (.cells #[.int .i64 k, .int .i64 w, .int .i64 s, .int .i64 c, .int .u32 st, .slice ia il ic, .int .i64 wri, .slice ra rl rc, .int .i64 at_, .int .i64 op, .int .i64 rd_, .slice qa ql qc, .slice la ll lc, .slice pa pl pc] 36)) W.heap.size #[.int .i64 k, .int .i64 w, .int .i64 s, .int .i64 c, .int .u32 st, .slice ia il ic, .int .i64 wri, .slice ra rl rc, .int .i64 at_, .int .i64 op, .int .i64 rd_, .slice qa ql qc, .slice la ll lc, .slice pa pl pc] 36) := Lib.hid (Blk.new W _ _)
  have HCA : Hid (Chg [] W (W.alloc (.cells #[.int .i64 k, .int .i64 w, .int .i64 s, .int .i64 c, .int .u32 st, .slice ia il ic, .int .i64 wri, .slice ra rl rc, .int .i64 at_, .int .i64 op, .int .i64 rd_, .slice qa ql qc, .slice la ll lc, .slice pa pl pc] 36))) := Lib.hid ((Chg.refl _ _).alloc _)
  have HTA : Hid (bitm.Tab (W.alloc (.cells #[.int .i64 k, .int .i64 w, .int .i64 s, .int .i64 c, .int .u32 st, .slice ia il ic, .int .i64 wri, .slice ra rl rc, .int .i64 at_, .int .i64 op, .int .i64 rd_, .slice qa ql qc, .slice la ll lc, .slice pa pl pc] 36))) := Lib.hid (hT.keep HCA.out)
  clear hT
  have HCC : Hid (Chg [] (W.alloc (.cells #[.int .i64 k, .int .i64 w, .int .i64 s, .int .i64 c, .int .u32 st, .slice ia il ic, .int .i64 wri, .slice ra rl rc, .int .i64 at_, .int .i64 op, .int .i64 rd_, .slice qa ql qc, .slice la ll lc, .slice pa pl pc] 36)) (W.alloc (.cells #[.int .i64 k, .int .i64 w, .int .i64 s, .int .i64 c, .int .u32 st, .slice ia il ic, .int .i64 wri, .slice ra rl rc, .int .i64 at_, .int .i64 op, .int .i64 rd_, .slice qa ql qc, .slice la ll lc, .slice pa pl pc] 36))) := Lib.hid (Chg.refl _ _)
  go_enter Tryd.func11, Tryd.ntmps11
  go_wp2_with (first | (go_at_call 29; refine (Light_any k w s c st ia il ic wri ra rl rc at_ op rd_ qa ql qc la ll lc pa pl pc _).mono ?_; rintro e wx ⟨rfl, hcx⟩; rw [HL.out]; have HCC := Lib.hid (HCC.out.trans hcx); have HBX := Lib.hid (HBX.out.keep hcx (by simp)); clear hcx; have e0 : wx.cell? ⟨W.heap.size, 0, none⟩ = some (.int .i64 k) := HBX.out.cell rfl; have e1 : wx.cell? ⟨W.heap.size, 1, none⟩ = some (.int .i64 w) := HBX.out.cell rfl; have e2 : wx.cell? ⟨W.heap.size, 2, none⟩ = some (.int .i64 s) := HBX.out.cell rfl; have e3 : wx.cell? ⟨W.heap.size, 3, none⟩ = some (.int .i64 c) := HBX.out.cell rfl; have e4 : wx.cell? ⟨W.heap.size, 4, none⟩ = some (.int .u32 st) := HBX.out.cell rfl; have e5 : wx.cell? ⟨W.heap.size, 5, none⟩ = some (.slice ia il ic) := HBX.out.cell rfl; have e6 : wx.cell? ⟨W.heap.size, 6, none⟩ = some (.int .i64 wri) := HBX.out.cell rfl; have e7 : wx.cell? ⟨W.heap.size, 7, none⟩ = some (.slice ra rl rc) := HBX.out.cell rfl; have e8 : wx.cell? ⟨W.heap.size, 8, none⟩ = some (.int .i64 at_) := HBX.out.cell rfl; have e9 : wx.cell? ⟨W.heap.size, 9, none⟩ = some (.int .i64 op) := HBX.out.cell rfl; have e10 : wx.cell? ⟨W.heap.size, 10, none⟩ = some (.int .i64 rd_) := HBX.out.cell rfl; have e11 : wx.cell? ⟨W.heap.size, 11, none⟩ = some (.slice qa ql qc) := HBX.out.cell rfl; have e12 : wx.cell? ⟨W.heap.size, 12, none⟩ = some (.slice la ll lc) := HBX.out.cell rfl; have e13 : wx.cell? ⟨W.heap.size, 13, none⟩ = some (.slice pa pl pc) := HBX.out.cell rfl) | (go_at_call 24; refine (chen.awake_any _ (HTA.out.keep HCC.out)).mono ?_; rintro e wz ⟨rfl, hcz⟩; have HZ := Lib.hid hcz; clear hcz))
  go_ret
  exact ⟨rfl, (HCA.out.trans (HCC.out.trans HZ.out)).below⟩

set_option maxHeartbeats 8000000 in
theorem none_ (k w s c st : Int) (ia : Option Addr) (il ic : Nat) (wri : Int) (ra : Option Addr) (rl rc : Nat) (at_ op rd_ : Int) (qa : Option Addr) (ql qc : Nat) (la : Option Addr) (ll lc : Nat) (pa : Option Addr) (pl pc : Nat) (rec : List Int) (sz : Int) (hl : lightB il rl ql ll pl = true) (hsz : ∀ V, Calls Tryd.prog 26 #[.agg #[.int .i64 k, .int .i64 w, .int .i64 s, .int .i64 c, .int .u32 st, .slice ia il ic, .int .i64 wri, .slice ra rl rc]] V fun e W' => e = .returned (.int .i64 sz) ∧ Chg [] V W')
    (hb : begI w rl sz at_ op rd_ 2 1 rec.length ≠ 0) (W : World) (hT : bitm.Tab W) (hrec : ReadsW W (.slice qa ql qc) rec) (hrl : rec.length ≤ 1000)
    (hy : ∀ V, ReadsW V (.slice qa ql qc) rec → Calls Tryd.prog 43 #[.agg #[.int .i64 k, .int .i64 w, .int .i64 s, .int .i64 c, .int .u32 st, .slice ia il ic, .int .i64 wri, .slice ra rl rc, .int .i64 at_, .int .i64 op, .int .i64 rd_, .slice qa ql qc, .slice la ll lc, .slice pa pl pc], .int .i64 2] V fun e W' => e = .returned (.tuple #[.pointer none, .int .i64 (begI w rl sz at_ op rd_ 2 1 rec.length)]) ∧ Chg [] V W') :
    Calls Tryd.prog 11 #[.agg #[.int .i64 k, .int .i64 w, .int .i64 s, .int .i64 c, .int .u32 st, .slice ia il ic, .int .i64 wri, .slice ra rl rc, .int .i64 at_, .int .i64 op, .int .i64 rd_, .slice qa ql qc, .slice la ll lc, .slice pa pl pc]] W fun e W' => e = .returned (.bool true) ∧ Below W.heap.size W W' := by
  obtain ⟨E, hE⟩ : ∃ E, begI w rl sz at_ op rd_ 2 1 rec.length = E := ⟨_, rfl⟩
  have HBG : Hid (∀ V (hv : ReadsW V (.slice qa ql qc) rec), Calls Tryd.prog 38 #[.agg #[.int .i64 k, .int .i64 w, .int .i64 s, .int .i64 c, .int .u32 st, .slice ia il ic, .int .i64 wri, .slice ra rl rc], .int .i64 at_, .int .i64 op, .int .i64 rd_, .slice qa ql qc] V fun e W' => e = .returned (.tuple #[.pointer none, .int .i64 E]) ∧ Chg [] V W') :=
    Lib.hid (fun V hv => by rw [← hE]; exact chen.Begin_no k w s c st ia il ic wri ra rl rc at_ op rd_ sz _ rec V hv hrl hsz hb)
  rw [hE] at hb hy
  have HYB := Lib.hid hy
  have hb1 : (E != E) = false := by simp
  have HL := Lib.hid hl
  have HREC := Lib.hid hrec
  clear hl hsz hb hE hrec hrl hy
  have HBX : Hid (Blk (W.alloc (.cells #[.int .i64 k, .int .i64 w, .int .i64 s, .int .i64 c, .int .u32 st, .slice ia il ic, .int .i64 wri, .slice ra rl rc, .int .i64 at_, .int .i64 op, .int .i64 rd_, .slice qa ql qc, .slice la ll lc, .slice pa pl pc] 36)) W.heap.size #[.int .i64 k, .int .i64 w, .int .i64 s, .int .i64 c, .int .u32 st, .slice ia il ic, .int .i64 wri, .slice ra rl rc, .int .i64 at_, .int .i64 op, .int .i64 rd_, .slice qa ql qc, .slice la ll lc, .slice pa pl pc] 36) := Lib.hid (Blk.new W _ _)
  have HCA : Hid (Chg [] W (W.alloc (.cells #[.int .i64 k, .int .i64 w, .int .i64 s, .int .i64 c, .int .u32 st, .slice ia il ic, .int .i64 wri, .slice ra rl rc, .int .i64 at_, .int .i64 op, .int .i64 rd_, .slice qa ql qc, .slice la ll lc, .slice pa pl pc] 36))) := Lib.hid ((Chg.refl _ _).alloc _)
  have HTA : Hid (bitm.Tab (W.alloc (.cells #[.int .i64 k, .int .i64 w, .int .i64 s, .int .i64 c, .int .u32 st, .slice ia il ic, .int .i64 wri, .slice ra rl rc, .int .i64 at_, .int .i64 op, .int .i64 rd_, .slice qa ql qc, .slice la ll lc, .slice pa pl pc] 36))) := Lib.hid (hT.keep HCA.out)
  clear hT
  have HCC : Hid (Chg [] (W.alloc (.cells #[.int .i64 k, .int .i64 w, .int .i64 s, .int .i64 c, .int .u32 st, .slice ia il ic, .int .i64 wri, .slice ra rl rc, .int .i64 at_, .int .i64 op, .int .i64 rd_, .slice qa ql qc, .slice la ll lc, .slice pa pl pc] 36)) (W.alloc (.cells #[.int .i64 k, .int .i64 w, .int .i64 s, .int .i64 c, .int .u32 st, .slice ia il ic, .int .i64 wri, .slice ra rl rc, .int .i64 at_, .int .i64 op, .int .i64 rd_, .slice qa ql qc, .slice la ll lc, .slice pa pl pc] 36))) := Lib.hid (Chg.refl _ _)
  go_enter Tryd.func11, Tryd.ntmps11
  go_wp2_with (first
    | (go_at_call 29; refine (Light_any k w s c st ia il ic wri ra rl rc at_ op rd_ qa ql qc la ll lc pa pl pc _).mono ?_; rintro e wx ⟨rfl, hcx⟩; rw [HL.out]; have HCC := Lib.hid (HCC.out.trans hcx); have HBX := Lib.hid (HBX.out.keep hcx (by simp)); clear hcx; have e0 : wx.cell? ⟨W.heap.size, 0, none⟩ = some (.int .i64 k) := HBX.out.cell rfl; have e1 : wx.cell? ⟨W.heap.size, 1, none⟩ = some (.int .i64 w) := HBX.out.cell rfl; have e2 : wx.cell? ⟨W.heap.size, 2, none⟩ = some (.int .i64 s) := HBX.out.cell rfl; have e3 : wx.cell? ⟨W.heap.size, 3, none⟩ = some (.int .i64 c) := HBX.out.cell rfl; have e4 : wx.cell? ⟨W.heap.size, 4, none⟩ = some (.int .u32 st) := HBX.out.cell rfl; have e5 : wx.cell? ⟨W.heap.size, 5, none⟩ = some (.slice ia il ic) := HBX.out.cell rfl; have e6 : wx.cell? ⟨W.heap.size, 6, none⟩ = some (.int .i64 wri) := HBX.out.cell rfl; have e7 : wx.cell? ⟨W.heap.size, 7, none⟩ = some (.slice ra rl rc) := HBX.out.cell rfl; have e8 : wx.cell? ⟨W.heap.size, 8, none⟩ = some (.int .i64 at_) := HBX.out.cell rfl; have e9 : wx.cell? ⟨W.heap.size, 9, none⟩ = some (.int .i64 op) := HBX.out.cell rfl; have e10 : wx.cell? ⟨W.heap.size, 10, none⟩ = some (.int .i64 rd_) := HBX.out.cell rfl; have e11 : wx.cell? ⟨W.heap.size, 11, none⟩ = some (.slice qa ql qc) := HBX.out.cell rfl; have e12 : wx.cell? ⟨W.heap.size, 12, none⟩ = some (.slice la ll lc) := HBX.out.cell rfl; have e13 : wx.cell? ⟨W.heap.size, 13, none⟩ = some (.slice pa pl pc) := HBX.out.cell rfl)
    | (go_at_call 38; refine (HBG.out _ (HREC.out.chg (HCA.out.trans HCC.out))).mono ?_; rintro e wb ⟨rfl, hcx⟩; have HCC := Lib.hid (HCC.out.trans hcx); have HBX := Lib.hid (HBX.out.keep hcx (by simp)); clear hcx e0 e1 e2 e3 e4 e5 e6 e7 e8 e9 e10 e11 e12 e13; have e0 : wb.cell? ⟨W.heap.size, 0, none⟩ = some (.int .i64 k) := HBX.out.cell rfl; have e1 : wb.cell? ⟨W.heap.size, 1, none⟩ = some (.int .i64 w) := HBX.out.cell rfl; have e2 : wb.cell? ⟨W.heap.size, 2, none⟩ = some (.int .i64 s) := HBX.out.cell rfl; have e3 : wb.cell? ⟨W.heap.size, 3, none⟩ = some (.int .i64 c) := HBX.out.cell rfl; have e4 : wb.cell? ⟨W.heap.size, 4, none⟩ = some (.int .u32 st) := HBX.out.cell rfl; have e5 : wb.cell? ⟨W.heap.size, 5, none⟩ = some (.slice ia il ic) := HBX.out.cell rfl; have e6 : wb.cell? ⟨W.heap.size, 6, none⟩ = some (.int .i64 wri) := HBX.out.cell rfl; have e7 : wb.cell? ⟨W.heap.size, 7, none⟩ = some (.slice ra rl rc) := HBX.out.cell rfl; have e8 : wb.cell? ⟨W.heap.size, 8, none⟩ = some (.int .i64 at_) := HBX.out.cell rfl; have e9 : wb.cell? ⟨W.heap.size, 9, none⟩ = some (.int .i64 op) := HBX.out.cell rfl; have e10 : wb.cell? ⟨W.heap.size, 10, none⟩ = some (.int .i64 rd_) := HBX.out.cell rfl; have e11 : wb.cell? ⟨W.heap.size, 11, none⟩ = some (.slice qa ql qc) := HBX.out.cell rfl; have e12 : wb.cell? ⟨W.heap.size, 12, none⟩ = some (.slice la ll lc) := HBX.out.cell rfl; have e13 : wb.cell? ⟨W.heap.size, 13, none⟩ = some (.slice pa pl pc) := HBX.out.cell rfl)
    | (go_at_call 43; refine (HYB.out _ (HREC.out.chg (HCA.out.trans HCC.out))).mono ?_; rintro e wc ⟨rfl, hcx⟩; have HCC := Lib.hid (HCC.out.trans hcx); clear hcx)
    | (go_at_call 42; refine (chen.Answer_nil _).mono ?_; rintro e wd ⟨rfl, rfl⟩)
    | (go_at_call 40; refine (chen.Over_nil _).mono ?_; rintro e wd ⟨rfl, rfl⟩)
    | (go_at_call 41; refine (chen.Steps_nil _).mono ?_; rintro e wd ⟨rfl, rfl⟩)
    | (go_at_call 49; refine (chen.Clone_nil _).mono ?_; rintro e wd ⟨rfl, rfl⟩)
    | (go_at_call 39; refine (chen.Step_nil _ _).mono ?_; rintro e wd ⟨rfl, rfl⟩)
    | (go_at_call 24; refine (chen.awake_any _ (HTA.out.keep HCC.out)).mono ?_; rintro e wz ⟨rfl, hcz⟩; have HZ := Lib.hid hcz; clear hcz))
  go_ret
  exact ⟨rfl, (HCA.out.trans (HCC.out.trans HZ.out)).below⟩

/-- what is known of an operation that was begun -/
structure Given (k w s c st : Int) (ia : Option Addr) (il ic : Nat) (wri : Int) (ra : Option Addr) (rl rc : Nat) (at_ op rd_ : Int) (qa : Option Addr) (ql qc : Nat) (la : Option Addr) (ll lc : Nat) (pa : Option Addr) (pl pc : Nat) (N wN : Nat) (rec l : List Int) (ps : List Poke) (W : World) : Prop where
  light : lightB il rl ql ll pl = true
  obj : ObjW k w s c st il rl
  right : (decide (k = 2) && rightB k w s c st il rl) = true
  hwN : w = (wN : Int)
  hN : N = 1 + rl + (((rl : Int) + 2) * w).toNat
  beg : begI w rl (N : Int) at_ op rd_ 2 1 rec.length = 0
  hrec : ReadsW W (.slice qa ql qc) rec
  hl : ReadsW W (.slice la ll lc) l
  hps : ReadsP W (.slice pa pl pc) ps
  at64 : -9223372036854775808 ≤ at_ ∧ at_ ≤ 9223372036854775807
theorem Given.spec {k w s c st : Int} {ia : Option Addr} {il ic : Nat} {wri : Int} {ra : Option Addr} {rl rc : Nat} {at_ op rd_ : Int} {qa : Option Addr} {ql qc : Nat} {la : Option Addr} {ll lc : Nat} {pa : Option Addr} {pl pc : Nat} {N wN : Nat} {rec l : List Int} {ps : List Poke} {W : World} (h : Given k w s c st ia il ic wri ra rl rc at_ op rd_ qa ql qc la ll lc pa pl pc N wN rec l ps W) :
    rec.length ≤ 1000 ∧ ll = l.length ∧ l.length ≤ 400 ∧ pl ≤ 100 ∧ 0 ≤ at_ ∧ 1 ≤ wN ∧ wN ≤ 8 ∧ (op = 2 ∧ rec.length = wN ∨ op = 1 ∧ rec.length = 0) := by
  have hl := h.light
  simp only [lightB, Bool.and_eq_true, decide_eq_true_eq] at hl
  have hr := h.right
  simp only [Bool.and_eq_true] at hr
  have hbd := rightB_bd hr.2
  have hw := h.hwN
  have e1 : ll = l.length := by obtain ⟨_, _, he, _⟩ := reads_slice h.hl.1; simp at he; exact he.2.1
  have e2 : ql = rec.length := by obtain ⟨_, _, he, _⟩ := reads_slice h.hrec.1; simp at he; exact he.2.1
  have hb := h.beg
  unfold begI at hb
  split at hb
  · omega
  · split at hb
    · split at hb
      · omega
      · split at hb <;> omega
    · split at hb
      · split at hb
        · omega
        · split at hb <;> omega
      · omega


theorem opens_over {x : Core} {l : Nat} (h : core.opens x l = true) : x.over = false := by
  simp only [core.opens, Bool.and_eq_true, Bool.not_eq_true'] at h
  exact h.1
theorem opens_fit {x : Core} {l : Nat} (h : core.opens x l = true) : 0 ≤ x.base ∧ x.base + x.size ≤ (l : Int) := by
  simp only [core.opens, Bool.and_eq_true, insB, decide_eq_true_eq] at h
  omega
set_option maxHeartbeats 16000000 in
theorem run (k w s c st : Int) (ia : Option Addr) (il ic : Nat) (wri : Int) (ra : Option Addr) (rl rc : Nat) (at_ op rd_ : Int) (qa : Option Addr) (ql qc : Nat) (la : Option Addr) (ll lc : Nat) (pa : Option Addr) (pl pc : Nat) (N wN : Nat) (rec l : List Int) (ps : List Poke) (W : World) (hT : bitm.Tab W) (h : Given k w s c st ia il ic wri ra rl rc at_ op rd_ qa ql qc la ll lc pa pl pc N wN rec l ps W) :
    Calls Tryd.prog 11 #[.agg #[.int .i64 k, .int .i64 w, .int .i64 s, .int .i64 c, .int .u32 st, .slice ia il ic, .int .i64 wri, .slice ra rl rc, .int .i64 at_, .int .i64 op, .int .i64 rd_, .slice qa ql qc, .slice la ll lc, .slice pa pl pc]] W fun e W' => e = .returned (.bool true) ∧ Below W.heap.size W W' := by
  have hsp := h.spec
  have HSP := Lib.hid hsp
  have HSH : Hid (chen.K.Shape ({ k := k, w := w, s := s, c := c, st := st, ia := ia, il := il, ic := ic, wr := wri, ra := ra, rl := rl, rc := rc, op := op, reader := rd_, phase := 0, i := 0, tries := 0, a := 0, b := 0, used := 0, m := .pointer none, base := at_, size := (N : Int), code := 0, steps := 0, over := false } : Core) rec) := Lib.hid (by
    have hw := h.hwN
    have hN := h.hN
    have hrlb : 1 ≤ rl ∧ rl ≤ 4 := by
      have hr := h.right
      simp only [Bool.and_eq_true, decide_eq_true_eq, rightB] at hr
      omega
    have hrd : 0 ≤ rd_ ∧ rd_ < (rl : Int) := by
      have hb := h.beg
      unfold begI at hb
      split at hb
      · omega
      · split at hb
        · split at hb
          · omega
          · omega
        · split at hb
          · split at hb
            · omega
            · omega
          · omega
    have hnn := Int.mul_nonneg (show 0 ≤ (rl : Int) + 2 by omega) (show 0 ≤ w by omega)
    have hnw : (N : Int) = 1 + rl + ((rl : Int) + 2) * w := by rw [hN]; omega
    rcases hsp.2.2.2.2.2.2.2 with ⟨ho, hr⟩ | ⟨ho, hr⟩
    · subst ho
      exact ⟨by simp only []; omega, by simp only []; omega, by simp only []; omega, by simp only []; omega, hrd, hsp.2.2.2.2.1, hnw, fun _ _ _ => bitm.Marks.zero, fun _ => by simp only []; exact ⟨by omega, by simp; omega⟩, .inl ⟨rfl, by simp, fun _ => by simp only []; omega⟩⟩
    · subst ho
      exact ⟨by simp only []; omega, by simp only []; omega, by simp only []; omega, by simp only []; omega, hrd, hsp.2.2.2.2.1, hnw, fun _ h9 => by simp at h9, fun _ => by simp only []; exact ⟨by omega, by simp; omega⟩, .inr ⟨rfl, by simp, fun _ => by simp [hr]⟩⟩)
  obtain ⟨i0, hi, hz0, hz1, hz2⟩ := info_parts mem.info32
  have HI0 : Hid (Tryd.prog.info? 22 = some i0 ∧ i0.zero = some (.int .u32 0) ∧ i0.size = 1 ∧ i0.bytes = 4) := Lib.hid ⟨hi, hz0, hz1, hz2⟩
  clear hi hz0 hz1 hz2
  have HNP : Hid (1 ≤ N) := Lib.hid (by have h1 := h.hN; have h2 := hsp; omega)
  have HKN : Hid (k = 2) := Lib.hid (by have := h.right; simp only [Bool.and_eq_true, decide_eq_true_eq] at this; exact this.1)
  have HRG : Hid (rightB k w s c st il rl = true) := Lib.hid (by have := h.right; simp only [Bool.and_eq_true, decide_eq_true_eq] at this; exact this.2)
  have HL := Lib.hid h.light
  have HOBJ := Lib.hid h.obj
  have HREC := Lib.hid h.hrec
  have HRL : Hid (rec.length ≤ 1000) := Lib.hid hsp.1
  have HLR := Lib.hid h.hl
  have HPS := Lib.hid h.hps
  have HPN : Hid (pl = ps.length) := Lib.hid (by obtain ⟨_, _, he, _⟩ := reads_slice h.hps.1; simp at he; exact he.2.1)
  have HSZ : Hid (∀ V, Calls Tryd.prog 26 #[.agg #[.int .i64 k, .int .i64 w, .int .i64 s, .int .i64 c, .int .u32 st, .slice ia il ic, .int .i64 wri, .slice ra rl rc]] V fun e W' => e = .returned (.int .i64 (N : Int)) ∧ Chg [] V W') := Lib.hid (fun V => by rw [h.hN]; exact chen.Size_yes k w s c st ia il ic wri ra rl rc wN h.hwN h.obj h.right V)
  have HBG := Lib.hid h.beg
  have HBY : Hid (begI w rl (rop.sizeI k w s c st il rl) at_ op rd_ (writesI k) (readsI k) rec.length = 0) := Lib.hid (by
    have h1 := h.beg
    have h2 := HRG.out
    have h3 := h.hwN
    have h4 := h.hN
    have hk := HKN.out
    subst hk
    have h5 := h2
    simp only [rightB, decide_eq_true_eq] at h5
    have h6 : 0 ≤ ((rl : Int) + 2) * w := Int.mul_nonneg (by omega) (by omega)
    rw [show rop.sizeI 2 w s c st il rl = (N : Int) from by rw [h4]; simp [rop.sizeI, h2, rop.headI, rop.recordsI]; omega]
    exact h1)
  have HAT : Hid (0 ≤ at_ ∧ at_ ≤ 9223372036854775807) := Lib.hid ⟨hsp.2.2.2.2.1, h.at64.2⟩
  have HREL : Hid (∀ vy, ref.RelN ({ k := k, w := w, s := s, c := c, st := st, ia := ia, il := il, ic := ic, wr := wri, ra := ra, rl := rl, rc := rc, op := op, reader := rd_, phase := 0, i := 0, tries := 0, a := 0, b := 0, used := 0, m := .pointer none, base := at_, size := (N : Int), code := 0, steps := 0, over := false } : Core) ({ k := k, w := w, s := s, c := c, st := st, ia := ia, il := il, ic := ic, wr := wri, ra := ra, rl := rl, rc := rc, at_ := at_, op := op, reader := rd_, row := 0, i := 0, tries := 0, code := 0, steps := 0, a := 0, b := 0, u := fun _ => false, rcd := vy, over := false } : rop.ROp)) := Lib.hid (fun vy => by
    have hk := HKN.out
    have hr := HRG.out
    have ho := HOBJ.out
    have ha := HAT.out
    subst hk
    exact ⟨⟨rfl, ho, hr, ha.2⟩, (by rcases hsp.2.2.2.2.2.2.2 with ⟨h1, -⟩ | ⟨h1, -⟩; exact .inl ⟨h1, 0, fun _ => false, rfl, fun _ _ => rfl, fun _ h9 => absurd h9 (by show ¬ ((0 : Int) = 1); omega)⟩; exact .inr ⟨h1, rfl⟩)⟩)
  clear h hsp
  have HBX : Hid (Blk (W.alloc (.cells #[.int .i64 k, .int .i64 w, .int .i64 s, .int .i64 c, .int .u32 st, .slice ia il ic, .int .i64 wri, .slice ra rl rc, .int .i64 at_, .int .i64 op, .int .i64 rd_, .slice qa ql qc, .slice la ll lc, .slice pa pl pc] 36)) W.heap.size #[.int .i64 k, .int .i64 w, .int .i64 s, .int .i64 c, .int .u32 st, .slice ia il ic, .int .i64 wri, .slice ra rl rc, .int .i64 at_, .int .i64 op, .int .i64 rd_, .slice qa ql qc, .slice la ll lc, .slice pa pl pc] 36) := Lib.hid (Blk.new W _ _)
  have HCA : Hid (Chg [] W (W.alloc (.cells #[.int .i64 k, .int .i64 w, .int .i64 s, .int .i64 c, .int .u32 st, .slice ia il ic, .int .i64 wri, .slice ra rl rc, .int .i64 at_, .int .i64 op, .int .i64 rd_, .slice qa ql qc, .slice la ll lc, .slice pa pl pc] 36))) := Lib.hid ((Chg.refl _ _).alloc _)
  have HTA : Hid (bitm.Tab (W.alloc (.cells #[.int .i64 k, .int .i64 w, .int .i64 s, .int .i64 c, .int .u32 st, .slice ia il ic, .int .i64 wri, .slice ra rl rc, .int .i64 at_, .int .i64 op, .int .i64 rd_, .slice qa ql qc, .slice la ll lc, .slice pa pl pc] 36))) := Lib.hid (hT.keep HCA.out)
  clear hT
  have HCC : Hid (Chg [] (W.alloc (.cells #[.int .i64 k, .int .i64 w, .int .i64 s, .int .i64 c, .int .u32 st, .slice ia il ic, .int .i64 wri, .slice ra rl rc, .int .i64 at_, .int .i64 op, .int .i64 rd_, .slice qa ql qc, .slice la ll lc, .slice pa pl pc] 36)) (W.alloc (.cells #[.int .i64 k, .int .i64 w, .int .i64 s, .int .i64 c, .int .u32 st, .slice ia il ic, .int .i64 wri, .slice ra rl rc, .int .i64 at_, .int .i64 op, .int .i64 rd_, .slice qa ql qc, .slice la ll lc, .slice pa pl pc] 36))) := Lib.hid (Chg.refl _ _)
  go_enter Tryd.func11, Tryd.ntmps11
  go_wp2_with (first
    | (go_at_call 29; refine (Light_any k w s c st ia il ic wri ra rl rc at_ op rd_ qa ql qc la ll lc pa pl pc _).mono ?_; rintro e wx ⟨rfl, hcx⟩; rw [HL.out]; have HCC := Lib.hid (HCC.out.trans hcx); have HBX := Lib.hid (HBX.out.keep hcx (by simp)); clear hcx; have e0 : wx.cell? ⟨W.heap.size, 0, none⟩ = some (.int .i64 k) := HBX.out.cell rfl; have e1 : wx.cell? ⟨W.heap.size, 1, none⟩ = some (.int .i64 w) := HBX.out.cell rfl; have e2 : wx.cell? ⟨W.heap.size, 2, none⟩ = some (.int .i64 s) := HBX.out.cell rfl; have e3 : wx.cell? ⟨W.heap.size, 3, none⟩ = some (.int .i64 c) := HBX.out.cell rfl; have e4 : wx.cell? ⟨W.heap.size, 4, none⟩ = some (.int .u32 st) := HBX.out.cell rfl; have e5 : wx.cell? ⟨W.heap.size, 5, none⟩ = some (.slice ia il ic) := HBX.out.cell rfl; have e6 : wx.cell? ⟨W.heap.size, 6, none⟩ = some (.int .i64 wri) := HBX.out.cell rfl; have e7 : wx.cell? ⟨W.heap.size, 7, none⟩ = some (.slice ra rl rc) := HBX.out.cell rfl; have e8 : wx.cell? ⟨W.heap.size, 8, none⟩ = some (.int .i64 at_) := HBX.out.cell rfl; have e9 : wx.cell? ⟨W.heap.size, 9, none⟩ = some (.int .i64 op) := HBX.out.cell rfl; have e10 : wx.cell? ⟨W.heap.size, 10, none⟩ = some (.int .i64 rd_) := HBX.out.cell rfl; have e11 : wx.cell? ⟨W.heap.size, 11, none⟩ = some (.slice qa ql qc) := HBX.out.cell rfl; have e12 : wx.cell? ⟨W.heap.size, 12, none⟩ = some (.slice la ll lc) := HBX.out.cell rfl; have e13 : wx.cell? ⟨W.heap.size, 13, none⟩ = some (.slice pa pl pc) := HBX.out.cell rfl)
    | (go_at_call 38; refine (chen.Begin_yes k w s c st ia il ic wri ra rl rc at_ op rd_ (N : Int) _ rec _ (HREC.out.chg (HCA.out.trans HCC.out)) HRL.out HSZ.out HBG.out).mono ?_; rintro e wb ⟨bx, v, rfl, hb, ho, hv, hxb, hcx⟩; have HB0 : Hid (Blk wb bx (({ k := k, w := w, s := s, c := c, st := st, ia := ia, il := il, ic := ic, wr := wri, ra := ra, rl := rl, rc := rc, op := op, reader := rd_, phase := 0, i := 0, tries := 0, a := 0, b := 0, used := 0, m := .pointer none, base := at_, size := (N : Int), code := 0, steps := 0, over := false } : Core).cells v) 83) := Lib.hid hb; have HO0 : Hid (OwnW wb (W.alloc (.cells #[.int .i64 k, .int .i64 w, .int .i64 s, .int .i64 c, .int .u32 st, .slice ia il ic, .int .i64 wri, .slice ra rl rc, .int .i64 at_, .int .i64 op, .int .i64 rd_, .slice qa ql qc, .slice la ll lc, .slice pa pl pc] 36)).heap.size v rec) := Lib.hid (own_base ho HCC.out.size); have HV0 := Lib.hid hv; have HX0 : Hid ((W.alloc (.cells #[.int .i64 k, .int .i64 w, .int .i64 s, .int .i64 c, .int .u32 st, .slice ia il ic, .int .i64 wri, .slice ra rl rc, .int .i64 at_, .int .i64 op, .int .i64 rd_, .slice qa ql qc, .slice la ll lc, .slice pa pl pc] 36)).heap.size ≤ bx ∧ bx < wb.heap.size) := Lib.hid ⟨Nat.le_trans HCC.out.size hxb, Blk.lt hb⟩; have HCB : Hid (Chg [] (W.alloc (.cells #[.int .i64 k, .int .i64 w, .int .i64 s, .int .i64 c, .int .u32 st, .slice ia il ic, .int .i64 wri, .slice ra rl rc, .int .i64 at_, .int .i64 op, .int .i64 rd_, .slice qa ql qc, .slice la ll lc, .slice pa pl pc] 36)) wb) := Lib.hid (HCC.out.trans hcx); have HCC := Lib.hid (HCC.out.trans hcx); have HBX := Lib.hid (HBX.out.keep hcx (by simp)); clear hcx hb ho hv hxb e0 e1 e2 e3 e4 e5 e6 e7 e8 e9 e10 e11 e12 e13; have e0 : wb.cell? ⟨W.heap.size, 0, none⟩ = some (.int .i64 k) := HBX.out.cell rfl; have e1 : wb.cell? ⟨W.heap.size, 1, none⟩ = some (.int .i64 w) := HBX.out.cell rfl; have e2 : wb.cell? ⟨W.heap.size, 2, none⟩ = some (.int .i64 s) := HBX.out.cell rfl; have e3 : wb.cell? ⟨W.heap.size, 3, none⟩ = some (.int .i64 c) := HBX.out.cell rfl; have e4 : wb.cell? ⟨W.heap.size, 4, none⟩ = some (.int .u32 st) := HBX.out.cell rfl; have e5 : wb.cell? ⟨W.heap.size, 5, none⟩ = some (.slice ia il ic) := HBX.out.cell rfl; have e6 : wb.cell? ⟨W.heap.size, 6, none⟩ = some (.int .i64 wri) := HBX.out.cell rfl; have e7 : wb.cell? ⟨W.heap.size, 7, none⟩ = some (.slice ra rl rc) := HBX.out.cell rfl; have e8 : wb.cell? ⟨W.heap.size, 8, none⟩ = some (.int .i64 at_) := HBX.out.cell rfl; have e9 : wb.cell? ⟨W.heap.size, 9, none⟩ = some (.int .i64 op) := HBX.out.cell rfl; have e10 : wb.cell? ⟨W.heap.size, 10, none⟩ = some (.int .i64 rd_) := HBX.out.cell rfl; have e11 : wb.cell? ⟨W.heap.size, 11, none⟩ = some (.slice qa ql qc) := HBX.out.cell rfl; have e12 : wb.cell? ⟨W.heap.size, 12, none⟩ = some (.slice la ll lc) := HBX.out.cell rfl; have e13 : wb.cell? ⟨W.heap.size, 13, none⟩ = some (.slice pa pl pc) := HBX.out.cell rfl)
    | (go_at_call 43; refine (ref.lBegin_ok k w s c st ia il ic wri ra rl rc at_ op rd_ qa ql qc la ll lc pa pl pc 2 HKN.out rec _ (HREC.out.chg (HCA.out.trans HCC.out)) HRL.out HOBJ.out HBY.out).mono ?_; rintro e wc ⟨ry, vy, rfl, hb, ho, hv, hxb, hcx⟩; have HR0 : Hid (rop.RAt wc ry ({ k := k, w := w, s := s, c := c, st := st, ia := ia, il := il, ic := ic, wr := wri, ra := ra, rl := rl, rc := rc, at_ := at_, op := op, reader := rd_, row := 0, i := 0, tries := 0, code := 0, steps := 0, a := 0, b := 0, u := fun _ => false, rcd := vy, over := false } : rop.ROp)) := Lib.hid hb; have HZ0 : Hid (OwnW wc wb.heap.size vy rec) := Lib.hid ho; have HY0 := Lib.hid hv; have HY1 := Lib.hid hxb; have HBC := Lib.hid hcx; have HO1 := Lib.hid (mem.own_chg HO0.out hcx (by simp)); have HB1 := Lib.hid (HB0.out.keep hcx (by simp)); have HCC := Lib.hid (HCC.out.trans hcx); have HBX := Lib.hid (HBX.out.keep hcx (by simp)); clear hcx hb ho hv hxb e0 e1 e2 e3 e4 e5 e6 e7 e8 e9 e10 e11 e12 e13; have e0 : wc.cell? ⟨W.heap.size, 0, none⟩ = some (.int .i64 k) := HBX.out.cell rfl; have e1 : wc.cell? ⟨W.heap.size, 1, none⟩ = some (.int .i64 w) := HBX.out.cell rfl; have e2 : wc.cell? ⟨W.heap.size, 2, none⟩ = some (.int .i64 s) := HBX.out.cell rfl; have e3 : wc.cell? ⟨W.heap.size, 3, none⟩ = some (.int .i64 c) := HBX.out.cell rfl; have e4 : wc.cell? ⟨W.heap.size, 4, none⟩ = some (.int .u32 st) := HBX.out.cell rfl; have e5 : wc.cell? ⟨W.heap.size, 5, none⟩ = some (.slice ia il ic) := HBX.out.cell rfl; have e6 : wc.cell? ⟨W.heap.size, 6, none⟩ = some (.int .i64 wri) := HBX.out.cell rfl; have e7 : wc.cell? ⟨W.heap.size, 7, none⟩ = some (.slice ra rl rc) := HBX.out.cell rfl; have e8 : wc.cell? ⟨W.heap.size, 8, none⟩ = some (.int .i64 at_) := HBX.out.cell rfl; have e9 : wc.cell? ⟨W.heap.size, 9, none⟩ = some (.int .i64 op) := HBX.out.cell rfl; have e10 : wc.cell? ⟨W.heap.size, 10, none⟩ = some (.int .i64 rd_) := HBX.out.cell rfl; have e11 : wc.cell? ⟨W.heap.size, 11, none⟩ = some (.slice qa ql qc) := HBX.out.cell rfl; have e12 : wc.cell? ⟨W.heap.size, 12, none⟩ = some (.slice la ll lc) := HBX.out.cell rfl; have e13 : wc.cell? ⟨W.heap.size, 13, none⟩ = some (.slice pa pl pc) := HBX.out.cell rfl)
    | (go_at_call 32; refine (Memory_ok _ l _ (HLR.out.chg (HCA.out.trans HCC.out)) (by have := HSP.out; omega)).mono ?_; rintro e w4 ⟨mb, sv, rfl, hm4, hc4, hb4, hs4⟩; have HP4 : Hid (Pair 83 bx mb sv w4 ({ k := k, w := w, s := s, c := c, st := st, ia := ia, il := il, ic := ic, wr := wri, ra := ra, rl := rl, rc := rc, op := op, reader := rd_, phase := 0, i := 0, tries := 0, a := 0, b := 0, used := 0, m := .pointer none, base := at_, size := (N : Int), code := 0, steps := 0, over := false } : Core) v rec l 0) := Lib.hid (Pair.make HB1.out HO1.out HV0.out HREC.out.2 HRL.out hc4 hm4 hb4 hs4); have HF4 : Hid (wc.heap.size ≤ mb ∧ ∀ y, sv.ownBlock = some y → wc.heap.size ≤ y) := Lib.hid ⟨hb4, hs4⟩; have HC4 := Lib.hid hc4; have HCC := Lib.hid (HCC.out.trans hc4); have HBX := Lib.hid (HBX.out.keep hc4 (by simp)); clear hm4 hc4 hb4 hs4 e0 e1 e2 e3 e4 e5 e6 e7 e8 e9 e10 e11 e12 e13; have e0 : w4.cell? ⟨W.heap.size, 0, none⟩ = some (.int .i64 k) := HBX.out.cell rfl; have e1 : w4.cell? ⟨W.heap.size, 1, none⟩ = some (.int .i64 w) := HBX.out.cell rfl; have e2 : w4.cell? ⟨W.heap.size, 2, none⟩ = some (.int .i64 s) := HBX.out.cell rfl; have e3 : w4.cell? ⟨W.heap.size, 3, none⟩ = some (.int .i64 c) := HBX.out.cell rfl; have e4 : w4.cell? ⟨W.heap.size, 4, none⟩ = some (.int .u32 st) := HBX.out.cell rfl; have e5 : w4.cell? ⟨W.heap.size, 5, none⟩ = some (.slice ia il ic) := HBX.out.cell rfl; have e6 : w4.cell? ⟨W.heap.size, 6, none⟩ = some (.int .i64 wri) := HBX.out.cell rfl; have e7 : w4.cell? ⟨W.heap.size, 7, none⟩ = some (.slice ra rl rc) := HBX.out.cell rfl; have e8 : w4.cell? ⟨W.heap.size, 8, none⟩ = some (.int .i64 at_) := HBX.out.cell rfl; have e9 : w4.cell? ⟨W.heap.size, 9, none⟩ = some (.int .i64 op) := HBX.out.cell rfl; have e10 : w4.cell? ⟨W.heap.size, 10, none⟩ = some (.int .i64 rd_) := HBX.out.cell rfl; have e11 : w4.cell? ⟨W.heap.size, 11, none⟩ = some (.slice qa ql qc) := HBX.out.cell rfl; have e12 : w4.cell? ⟨W.heap.size, 12, none⟩ = some (.slice la ll lc) := HBX.out.cell rfl; have e13 : w4.cell? ⟨W.heap.size, 13, none⟩ = some (.slice pa pl pc) := HBX.out.cell rfl; have e12a : (w4.alloc (.cells #[] 22)).cell? ⟨W.heap.size, 12, none⟩ = some (.slice la ll lc) := ((Chg.refl [] w4).alloc _).keep e12 (by simp))
    | ((with_reducible show wpList _ _ _ (⟨some 87, _, _, _, _, _⟩ :: _) _ _); refine wpList_append_any (o := ⟨some 87, _, _, _, _, _⟩) _ rfl (.tmp 84) (.tmp 86) 23 rfl w4.heap.size 22 i0 (.int .u32 0) 1 4 Tryd.underlying23 HI0.out.1 HI0.out.2.1 HI0.out.2.2.1 HI0.out.2.2.2 rfl (by decide) (.slice (some ⟨w4.heap.size, 0, none⟩) 0 0) 0 [] rfl (World.ownsRow_lit w4 #[] 0 (Nat.le_refl _) (Nat.zero_le _) rfl) (.slice la ll lc) l.length _ rfl ((HLR.out.chg (HCA.out.trans HCC.out)).1.alloc _) (ints_oneCell _ _) (by have := HSP.out; unfold maxLen; omega) (by have := HSP.out; omega) (by simp) ?_; intro v2 w6 hown2 hg2; simp only [Nat.zero_add, List.nil_append] at hown2; have hc2 : Chg [] w4 w6 := ((Chg.refl _ _).alloc _).grown hg2 (by simp [Value.ownBlock]); clear hg2; obtain ⟨a2, cc2, rfl, _⟩ := reads_slice (Reads.of_own hown2 (by decide)); have HO2 : Hid (OwnW w6 w4.heap.size (.slice a2 l.length cc2) l) := Lib.hid hown2; have HC46 := Lib.hid hc2; clear hc2 hown2 e12a e0 e1 e2 e3 e4 e5 e6 e7 e8 e9 e10 e11 e12 e13))
  have HT0 : Hid (ref.Trio 83 (W.alloc (.cells #[.int .i64 k, .int .i64 w, .int .i64 s, .int .i64 c, .int .u32 st, .slice ia il ic, .int .i64 wri, .slice ra rl rc, .int .i64 at_, .int .i64 op, .int .i64 rd_, .slice qa ql qc, .slice la ll lc, .slice pa pl pc] 36)) bx mb sv (.slice a2 l.length cc2) w6 ({ k := k, w := w, s := s, c := c, st := st, ia := ia, il := il, ic := ic, wr := wri, ra := ra, rl := rl, rc := rc, op := op, reader := rd_, phase := 0, i := 0, tries := 0, a := 0, b := 0, used := 0, m := .pointer none, base := at_, size := (N : Int), code := 0, steps := 0, over := false } : Core) rec l 0 ry ({ k := k, w := w, s := s, c := c, st := st, ia := ia, il := il, ic := ic, wr := wri, ra := ra, rl := rl, rc := rc, at_ := at_, op := op, reader := rd_, row := 0, i := 0, tries := 0, code := 0, steps := 0, a := 0, b := 0, u := fun _ => false, rcd := vy, over := false } : rop.ROp) rec l) := Lib.hid (ref.Trio.make HP4.out HCB.out HBC.out HC4.out HX0.out HF4.out.1 HF4.out.2 HO0.out HR0.out HZ0.out HY0.out HY1.out HO2.out HC46.out)
  have HIN0 : Hid (chen.K.Shape ({ k := k, w := w, s := s, c := c, st := st, ia := ia, il := il, ic := ic, wr := wri, ra := ra, rl := rl, rc := rc, op := op, reader := rd_, phase := 0, i := 0, tries := 0, a := 0, b := 0, used := 0, m := .pointer none, base := at_, size := (N : Int), code := 0, steps := 0, over := false } : Core) rec ∧ ref.RelN ({ k := k, w := w, s := s, c := c, st := st, ia := ia, il := il, ic := ic, wr := wri, ra := ra, rl := rl, rc := rc, op := op, reader := rd_, phase := 0, i := 0, tries := 0, a := 0, b := 0, used := 0, m := .pointer none, base := at_, size := (N : Int), code := 0, steps := 0, over := false } : Core) ({ k := k, w := w, s := s, c := c, st := st, ia := ia, il := il, ic := ic, wr := wri, ra := ra, rl := rl, rc := rc, at_ := at_, op := op, reader := rd_, row := 0, i := 0, tries := 0, code := 0, steps := 0, a := 0, b := 0, u := fun _ => false, rcd := vy, over := false } : rop.ROp) ∧ (0 ≤ (({ k := k, w := w, s := s, c := c, st := st, ia := ia, il := il, ic := ic, wr := wri, ra := ra, rl := rl, rc := rc, op := op, reader := rd_, phase := 0, i := 0, tries := 0, a := 0, b := 0, used := 0, m := .pointer none, base := at_, size := (N : Int), code := 0, steps := 0, over := false } : Core)).steps ∧ (({ k := k, w := w, s := s, c := c, st := st, ia := ia, il := il, ic := ic, wr := wri, ra := ra, rl := rl, rc := rc, op := op, reader := rd_, phase := 0, i := 0, tries := 0, a := 0, b := 0, used := 0, m := .pointer none, base := at_, size := (N : Int), code := 0, steps := 0, over := false } : Core)).steps ≤ ((0 : Nat) : Int)) ∧ (({ k := k, w := w, s := s, c := c, st := st, ia := ia, il := il, ic := ic, wr := wri, ra := ra, rl := rl, rc := rc, op := op, reader := rd_, phase := 0, i := 0, tries := 0, a := 0, b := 0, used := 0, m := .pointer none, base := at_, size := (N : Int), code := 0, steps := 0, over := false } : Core)).base = at_ ∧ (({ k := k, w := w, s := s, c := c, st := st, ia := ia, il := il, ic := ic, wr := wri, ra := ra, rl := rl, rc := rc, op := op, reader := rd_, phase := 0, i := 0, tries := 0, a := 0, b := 0, used := 0, m := .pointer none, base := at_, size := (N : Int), code := 0, steps := 0, over := false } : Core)).size = (N : Int) ∧ (l).length = ll ∧ 0 ≤ (0 : Int) ∧ (0 : Int) ≤ 101 * ((0 : Nat) : Int)) := Lib.hid ⟨HSH.out, HREL.out _, ⟨Int.le_refl _, Int.le_refl _⟩, rfl, rfl, HSP.out.2.1.symm, by omega, by omega⟩
  obtain ⟨x0, hx0⟩ : ∃ x0 : Core, ({ k := k, w := w, s := s, c := c, st := st, ia := ia, il := il, ic := ic, wr := wri, ra := ra, rl := rl, rc := rc, op := op, reader := rd_, phase := 0, i := 0, tries := 0, a := 0, b := 0, used := 0, m := .pointer none, base := at_, size := (N : Int), code := 0, steps := 0, over := false } : Core) = x0 := ⟨_, rfl⟩
  obtain ⟨z0, hz0⟩ : ∃ z0 : rop.ROp, ({ k := k, w := w, s := s, c := c, st := st, ia := ia, il := il, ic := ic, wr := wri, ra := ra, rl := rl, rc := rc, at_ := at_, op := op, reader := rd_, row := 0, i := 0, tries := 0, code := 0, steps := 0, a := 0, b := 0, u := fun _ => false, rcd := vy, over := false } : rop.ROp) = z0 := ⟨_, rfl⟩
  rw [hx0, hz0] at HT0 HIN0
  clear hx0 hz0 HBX HCC HB0 HO0 HP4 HR0 HZ0 HY0 HY1 HO1 HB1 HCB HBC HC4 HF4 HX0 HV0 HO2 HC46 HSH HREL
  go_wp2_with fail
  go_loopw [11] (fun i wr => ∃ (t : Nat) (y : Core) (rc_ ws : List Int) (n : Int) (z : rop.ROp), t ≤ 130 ∧ i = .int .i64 t ∧ Hid (ref.Trio 83 (W.alloc (.cells #[.int .i64 k, .int .i64 w, .int .i64 s, .int .i64 c, .int .u32 st, .slice ia il ic, .int .i64 wri, .slice ra rl rc, .int .i64 at_, .int .i64 op, .int .i64 rd_, .slice qa ql qc, .slice la ll lc, .slice pa pl pc] 36)) bx mb sv (.slice a2 l.length cc2) wr y rc_ ws n ry z rc_ ws) ∧ Hid (chen.K.Shape y rc_ ∧ ref.RelN y z ∧ (0 ≤ (y).steps ∧ (y).steps ≤ (t : Int)) ∧ (y).base = at_ ∧ (y).size = (N : Int) ∧ (ws).length = ll ∧ 0 ≤ n ∧ n ≤ 101 * (t : Int))) (fun i _ => 130 - (intOf i).toNat)
  case atStart => exact ⟨0, x0, rec, l, 0, z0, by omega, rfl, HT0, HIN0⟩
  case round =>
    obtain ⟨t, y, rc_, ws, n, z, ht, rfl, HD, HIN⟩ := hrel
    clear HT0 HIN0
    have k9 : IntKind.i64.wrap ((t : Int) + 1) = (t : Int) + 1 := by rw [IntKind.wrap_i64]; omega
    by_cases c2 : t < 130
    · have c2I : (t : Int) < 130 := by omega
      have HLT := Lib.hid c2
      clear ht c2
      have HB : Hid (Blk wr W.heap.size #[.int .i64 k, .int .i64 w, .int .i64 s, .int .i64 c, .int .u32 st, .slice ia il ic, .int .i64 wri, .slice ra rl rc, .int .i64 at_, .int .i64 op, .int .i64 rd_, .slice qa ql qc, .slice la ll lc, .slice pa pl pc] 36) := Lib.hid ((Blk.new W _ _).keep HD.out.chg (by simp))
      have HPL : Hid ((pokeL t ps ws).length = ll) := Lib.hid ((pokeL_length _ _ _).trans HIN.out.2.2.2.2.2.1)
      cases hop : core.opens y (pokeL t ps ws).length
      · have HOP := Lib.hid hop
        clear hop
        cases hov : y.over
        · -- no step; over: false
          have HOV := Lib.hid hov
          clear hov
          have e0 : wr.cell? ⟨W.heap.size, 0, none⟩ = some (.int .i64 k) := HB.out.cell rfl
          have e1 : wr.cell? ⟨W.heap.size, 1, none⟩ = some (.int .i64 w) := HB.out.cell rfl
          have e2 : wr.cell? ⟨W.heap.size, 2, none⟩ = some (.int .i64 s) := HB.out.cell rfl
          have e3 : wr.cell? ⟨W.heap.size, 3, none⟩ = some (.int .i64 c) := HB.out.cell rfl
          have e4 : wr.cell? ⟨W.heap.size, 4, none⟩ = some (.int .u32 st) := HB.out.cell rfl
          have e5 : wr.cell? ⟨W.heap.size, 5, none⟩ = some (.slice ia il ic) := HB.out.cell rfl
          have e6 : wr.cell? ⟨W.heap.size, 6, none⟩ = some (.int .i64 wri) := HB.out.cell rfl
          have e7 : wr.cell? ⟨W.heap.size, 7, none⟩ = some (.slice ra rl rc) := HB.out.cell rfl
          have e8 : wr.cell? ⟨W.heap.size, 8, none⟩ = some (.int .i64 at_) := HB.out.cell rfl
          have e9 : wr.cell? ⟨W.heap.size, 9, none⟩ = some (.int .i64 op) := HB.out.cell rfl
          have e10 : wr.cell? ⟨W.heap.size, 10, none⟩ = some (.int .i64 rd_) := HB.out.cell rfl
          have e11 : wr.cell? ⟨W.heap.size, 11, none⟩ = some (.slice qa ql qc) := HB.out.cell rfl
          have e12 : wr.cell? ⟨W.heap.size, 12, none⟩ = some (.slice la ll lc) := HB.out.cell rfl
          have e13 : wr.cell? ⟨W.heap.size, 13, none⟩ = some (.slice pa pl pc) := HB.out.cell rfl
          go_wp2_with (first
            | (go_at_call 34; refine (Poked_any k w s c st ia il ic wri ra rl rc at_ op rd_ qa ql qc la ll lc pa pl pc t mb sv (.slice a2 l.length cc2) ps ws ws n _ (HPS.out.chg (HCA.out.trans HD.out.chg)) (by have := HSP.out; omega) HD.out.memory HD.out.row rfl (by have := HIN.out; have := HSP.out; omega) (by have h1 := HIN.out; have h2 := HLT.out; omega) (fun z hz => ⟨(HD.out.fl z hz).2.2.1, (HD.out.fl z hz).2.2.2⟩) (fun hpl z hz => HD.out.far (by have h1 := ReadsP.lt HPS.out (by have := HPN.out; omega) z hz; have h0 := HCA.out.size; omega))).mono ?_; rintro e w6 ⟨rfl, n6, hn6, hm6, hl6, hc6⟩; have HD6 := Lib.hid (HD.out.poke hm6 hl6 hc6); have HN6 := Lib.hid hn6; have hw6 : IntKind.i64.wrap (n6 + 1) = n6 + 1 := (by have h1 := HIN.out; have h2 := HLT.out; rw [IntKind.wrap_i64]; omega); clear hm6 hl6 hc6 hn6; obtain ⟨v6, hp6, hv6⟩ := HD6.out.pair; have HP6 := Lib.hid hp6; have HV6 := Lib.hid hv6; clear hp6 hv6 e0 e1 e2 e3 e4 e5 e6 e7 e8 e9 e10 e11 e12 e13)
            | (go_at_call 45; refine (mem.Steps_any mb sv (pokeL t ps ws) n6 _ HD6.out.memory).mono ?_; rintro e w7 ⟨rfl, rfl⟩)
            | (go_at_call 39; refine (chen.Step_no HOP.out (St.start HP6.out)).mono ?_; rintro e w8 ⟨rfl, hx⟩; have HD8 := Lib.hid (HD6.out.keep hx); clear hx)
            | (go_at_call 46; refine (ref.Ties.stay ref.tiesN HD8.out HIN.out.1 HIN.out.2.1 HOP.out (by have h1 := HPL.out; have h2 := HSP.out; omega) (by have h1 := HPL.out; have h2 := HSP.out; omega)).mono ?_; rintro e w9 ⟨rfl, hx⟩; have hd9 := HD8.out.keep hx; have HD9 := Lib.hid hd9; have HRE := Lib.hid HIN.out.2.1; obtain ⟨v9, hp9, hv9⟩ := hd9.pair; have HP9 := Lib.hid hp9; clear hx hd9 hp9 hv9)
            | (go_at_call 42; refine (chen.Answer_any HP9.out).mono ?_; rintro e wd ⟨vd, rfl, hod, hcd⟩; rw [HOV.out] at hod; rw [HOV.out]; simp only [if_true, if_false, Bool.false_eq_true] at hod; obtain ⟨ad, cd, hvd⟩ := ref.own_slice (own_base hod (Nat.zero_le _)); subst hvd; have HOD := Lib.hid hod; have HDD := Lib.hid (HD9.out.keep hcd); have HPD := Lib.hid (HP9.out.keep hcd); clear hod hcd))
          have HZO : Hid (z.over = false) := Lib.hid ((ref.tiesN.over HRE.out).trans HOV.out)
          have HZS : Hid (z.steps = y.steps) := Lib.hid (ref.tiesN.steps HRE.out)
          have HZC : Hid (z.code = y.code) := Lib.hid (ref.tiesN.code HRE.out)
          have HWF : Hid (∀ u ∈ (pokeL t ps ws), (Lit.int .u32 u).wf = true) := Lib.hid HDD.out.memory.wf
          have HWL : Hid (((pokeL t ps ws)).length ≤ 1000000) := Lib.hid (by have h1 := HPL.out; have h2 := HSP.out; omega)
          have HCO : Hid (∀ V, Chg [] wd V → Calls Tryd.prog 40 #[.pointer (some ⟨bx, 0, none⟩)] V fun e W' => e = .returned (.bool false) ∧ Chg [] V W') := Lib.hid (fun V hV => (chen.Over_any (St.start (HPD.out.keep hV))).mono (by rintro e w' ⟨rfl, rfl⟩; exact ⟨by rw [HOV.out], Chg.refl _ _⟩))
          have HCS : Hid (∀ V, Chg [] wd V → Calls Tryd.prog 41 #[.pointer (some ⟨bx, 0, none⟩)] V fun e W' => e = .returned (.int .i64 y.steps) ∧ Chg [] V W') := Lib.hid (fun V hV => (chen.Steps_any (St.start (HPD.out.keep hV))).mono (by rintro e w' ⟨rfl, rfl⟩; exact ⟨rfl, Chg.refl _ _⟩))
          have HCM : Hid (∀ V, Chg [] wd V → Calls Tryd.prog 45 #[.pointer (some ⟨mb, 0, none⟩)] V fun e W' => e = .returned (.int .i64 n6) ∧ Chg [] V W') := Lib.hid (fun V hV => (mem.Steps_any mb sv (pokeL t ps ws) n6 _ (HDD.out.keep hV).memory).mono (by rintro e w' ⟨rfl, rfl⟩; exact ⟨rfl, Chg.refl _ _⟩))
          have HCL : Hid (∀ V, Chg [] wd V → Calls Tryd.prog 47 #[.pointer (some ⟨mb, 0, none⟩)] V fun e W' => ∃ vw, e = .returned vw ∧ OwnW W' V.heap.size vw (pokeL t ps ws) ∧ Chg [] V W') := Lib.hid (fun V hV => Words_ok mb sv (pokeL t ps ws) n6 _ (HDD.out.keep hV).memory)
          have HCP : Hid (∀ V vw B, Chg [] wd V → OwnW V B vw (pokeL t ps ws) → Calls Tryd.prog 21 #[vw, (.slice a2 l.length cc2)] V fun e W' => e = .returned (.bool true) ∧ Chg [] V W') := Lib.hid (fun V vw B hV hW => (Words_any _ _ (pokeL t ps ws) (pokeL t ps ws) _ (OwnW.reads hW HWF.out) (OwnW.reads (HDD.out.keep hV).row HWF.out) HWL.out HWL.out).mono (by rintro e w' ⟨rfl, hq⟩; exact ⟨by rw [show wordsB (pokeL t ps ws) (pokeL t ps ws) = true from by simp [wordsB]], quiet_chg hq⟩))
          have eS0 : wd.cell? ⟨ry, 39, none⟩ = some (.bool false) := by rw [← HZO.out]; exact HDD.out.box.cell rfl
          have eS1 : wd.cell? ⟨ry, 15, none⟩ = some (.int .i64 y.steps) := by rw [← HZS.out]; exact HDD.out.box.cell rfl
          have KEEP := Lib.hid (fun (V : World) (h : Chg [] wd V) => (⟨h.keep eS0 (by simp), h.keep eS1 (by simp), Lib.hid h⟩ : (fun V : World => V.cell? ⟨ry, 39, none⟩ = some (.bool false) ∧ V.cell? ⟨ry, 15, none⟩ = some (.int .i64 y.steps) ∧ Hid (Chg [] wd V)) V))
          clear eS0 eS1
          have hHeld : (fun V : World => V.cell? ⟨ry, 39, none⟩ = some (.bool false) ∧ V.cell? ⟨ry, 15, none⟩ = some (.int .i64 y.steps) ∧ Hid (Chg [] wd V)) (World.drew wd) := KEEP.out _ (Chg.refl _ _).drew
          refine wp_region_plan (fun V : World => V.cell? ⟨ry, 39, none⟩ = some (.bool false) ∧ V.cell? ⟨ry, 15, none⟩ = some (.int .i64 y.steps) ∧ Hid (Chg [] wd V)) [(0, true, some 110), (1, true, some 111), (2, true, some 112), (3, true, some 113), (4, true, some 114), (6, true, some 116), (7, true, some 117), (8, true, some 118), (9, true, some 119), (5, false, some 115), (10, true, some 120), (11, true, some 121), (12, true, some 122), (13, true, some 123), (15, true, some 125), (16, true, some 126), (17, true, some 127), (18, true, some 128), (14, false, some 124), (19, true, some 129), (20, true, some 130), (21, true, some 131), (22, true, some 132), (24, true, some 134), (23, false, some 133), (25, false, some 135), (26, true, some 136), (27, true, some 137), (28, true, some 138), (29, true, some 139), (30, true, some 140), (31, true, some 141), (33, true, some 143), (34, true, some 144), (32, false, some 142), (35, true, some 145), (36, true, some 146), (37, true, some 147), (38, true, some 148), (39, true, some 149), (40, true, some 150), (41, true, some 151), (42, true, some 152), (44, true, some 154), (43, false, some 153), (45, true, some 155), (46, true, some 156), (47, true, some 157)] (by kernel_rfl) (by kernel_rfl) (by kernel_rfl) (by kernel_rfl) (fun d c a v w h => by cases d <;> exact h) hHeld ?_
          repeat (first
            | (refine planWp_read (v := ?_) rfl rfl ?_ ?_ ?_; rotate_left; (focus rfl); (focus (intro u hSw; (try dsimp only at hSw); go_simp; (try with_reducible rfl))); (try simp only [Act.put, List.setIfInBounds_toArray, List.set_cons_zero, List.set_cons_succ]))
            | (refine planWp_skip rfl rfl ?_ ?_; (focus rfl); (try simp only [Act.put, List.setIfInBounds_toArray, List.set_cons_zero, List.set_cons_succ]))
            | (refine planWp_leave rfl rfl ?_ hHeld ?_; (focus rfl); (try simp only [Act.put, List.setIfInBounds_toArray, List.set_cons_zero, List.set_cons_succ]))
            | (refine planWp_do rfl rfl ?_ (fun K hK => ?_); (focus rfl); go_simp; (try go_wp2_with (first | (go_at_call 40; refine (HCO.out _ hHeld.2.2.out).mono ?_; rintro e wx ⟨rfl, hcx⟩; have HCX := Lib.hid hcx; clear hcx) | (go_at_call 41; refine (HCS.out _ hHeld.2.2.out).mono ?_; rintro e wx ⟨rfl, hcx⟩; have HCX := Lib.hid hcx; clear hcx) | (go_at_call 47; refine (HCL.out _ hHeld.2.2.out).mono ?_; rintro e wx ⟨vw, rfl, how, hcx⟩; have HOW := Lib.hid how; have HCX := Lib.hid hcx; clear how hcx) | (go_at_call 21; refine (HCP.out _ _ _ hHeld.2.2.out HOW.out).mono ?_; rintro e wx ⟨rfl, hcx⟩; have HCX := Lib.hid hcx; clear hcx) | (go_at_call 45; refine (HCM.out _ hHeld.2.2.out).mono ?_; rintro e wx ⟨rfl, hcx⟩; have HCX := Lib.hid hcx; clear hcx))); refine hK.out _ _ ?_ (fun hHeld2 => ?_); (focus (exact KEEP.out _ (Chg.trans hHeld.2.2.out HCX.out))); clear hK K hHeld; have hHeld := hHeld2; clear hHeld2; (try simp only [Act.put, List.setIfInBounds_toArray, List.set_cons_zero, List.set_cons_succ])))
          refine planWp_nil ?_
          have HR9 := Lib.hid hHeld.2.2.out
          clear hHeld KEEP
          refine rop.then_gen (R := fun V => Hid (Chg [] wd V)) HR9 ?_
          clear HR9
          rintro wf HR9
          have HDF := Lib.hid (HDD.out.keep HR9.out)
          have HOF := Lib.hid (mem.own_chg HOD.out HR9.out (by simp))
          have e39 : wf.cell? ⟨ry, 39, none⟩ = some (.bool false) := by rw [← HZO.out]; exact HDF.out.box.cell rfl
          go_wp2_with (first | fail | (go_at_call 24; refine (chen.awake_any _ (HTA.out.keep HDF.out.chg)).mono ?_; rintro e wz ⟨rfl, hcz⟩; have HZ := Lib.hid hcz; clear hcz))
          go_ret
          exact ⟨rfl, (HCA.out.trans (HDF.out.chg.trans HZ.out)).below⟩
        · -- no step; over: true
          have HOV := Lib.hid hov
          clear hov
          have e0 : wr.cell? ⟨W.heap.size, 0, none⟩ = some (.int .i64 k) := HB.out.cell rfl
          have e1 : wr.cell? ⟨W.heap.size, 1, none⟩ = some (.int .i64 w) := HB.out.cell rfl
          have e2 : wr.cell? ⟨W.heap.size, 2, none⟩ = some (.int .i64 s) := HB.out.cell rfl
          have e3 : wr.cell? ⟨W.heap.size, 3, none⟩ = some (.int .i64 c) := HB.out.cell rfl
          have e4 : wr.cell? ⟨W.heap.size, 4, none⟩ = some (.int .u32 st) := HB.out.cell rfl
          have e5 : wr.cell? ⟨W.heap.size, 5, none⟩ = some (.slice ia il ic) := HB.out.cell rfl
          have e6 : wr.cell? ⟨W.heap.size, 6, none⟩ = some (.int .i64 wri) := HB.out.cell rfl
          have e7 : wr.cell? ⟨W.heap.size, 7, none⟩ = some (.slice ra rl rc) := HB.out.cell rfl
          have e8 : wr.cell? ⟨W.heap.size, 8, none⟩ = some (.int .i64 at_) := HB.out.cell rfl
          have e9 : wr.cell? ⟨W.heap.size, 9, none⟩ = some (.int .i64 op) := HB.out.cell rfl
          have e10 : wr.cell? ⟨W.heap.size, 10, none⟩ = some (.int .i64 rd_) := HB.out.cell rfl
          have e11 : wr.cell? ⟨W.heap.size, 11, none⟩ = some (.slice qa ql qc) := HB.out.cell rfl
          have e12 : wr.cell? ⟨W.heap.size, 12, none⟩ = some (.slice la ll lc) := HB.out.cell rfl
          have e13 : wr.cell? ⟨W.heap.size, 13, none⟩ = some (.slice pa pl pc) := HB.out.cell rfl
          go_wp2_with (first
            | (go_at_call 34; refine (Poked_any k w s c st ia il ic wri ra rl rc at_ op rd_ qa ql qc la ll lc pa pl pc t mb sv (.slice a2 l.length cc2) ps ws ws n _ (HPS.out.chg (HCA.out.trans HD.out.chg)) (by have := HSP.out; omega) HD.out.memory HD.out.row rfl (by have := HIN.out; have := HSP.out; omega) (by have h1 := HIN.out; have h2 := HLT.out; omega) (fun z hz => ⟨(HD.out.fl z hz).2.2.1, (HD.out.fl z hz).2.2.2⟩) (fun hpl z hz => HD.out.far (by have h1 := ReadsP.lt HPS.out (by have := HPN.out; omega) z hz; have h0 := HCA.out.size; omega))).mono ?_; rintro e w6 ⟨rfl, n6, hn6, hm6, hl6, hc6⟩; have HD6 := Lib.hid (HD.out.poke hm6 hl6 hc6); have HN6 := Lib.hid hn6; have hw6 : IntKind.i64.wrap (n6 + 1) = n6 + 1 := (by have h1 := HIN.out; have h2 := HLT.out; rw [IntKind.wrap_i64]; omega); clear hm6 hl6 hc6 hn6; obtain ⟨v6, hp6, hv6⟩ := HD6.out.pair; have HP6 := Lib.hid hp6; have HV6 := Lib.hid hv6; clear hp6 hv6 e0 e1 e2 e3 e4 e5 e6 e7 e8 e9 e10 e11 e12 e13)
            | (go_at_call 45; refine (mem.Steps_any mb sv (pokeL t ps ws) n6 _ HD6.out.memory).mono ?_; rintro e w7 ⟨rfl, rfl⟩)
            | (go_at_call 39; refine (chen.Step_no HOP.out (St.start HP6.out)).mono ?_; rintro e w8 ⟨rfl, hx⟩; have HD8 := Lib.hid (HD6.out.keep hx); clear hx)
            | (go_at_call 46; refine (ref.Ties.stay ref.tiesN HD8.out HIN.out.1 HIN.out.2.1 HOP.out (by have h1 := HPL.out; have h2 := HSP.out; omega) (by have h1 := HPL.out; have h2 := HSP.out; omega)).mono ?_; rintro e w9 ⟨rfl, hx⟩; have hd9 := HD8.out.keep hx; have HD9 := Lib.hid hd9; have HRE := Lib.hid HIN.out.2.1; obtain ⟨v9, hp9, hv9⟩ := hd9.pair; have HP9 := Lib.hid hp9; clear hx hd9 hp9 hv9)
            | (go_at_call 42; refine (chen.Answer_any HP9.out).mono ?_; rintro e wd ⟨vd, rfl, hod, hcd⟩; rw [HOV.out] at hod; rw [HOV.out]; simp only [if_true, if_false, Bool.false_eq_true] at hod; obtain ⟨ad, cd, hvd⟩ := ref.own_slice (own_base hod (Nat.zero_le _)); subst hvd; have HOD := Lib.hid hod; have HDD := Lib.hid (HD9.out.keep hcd); have HPD := Lib.hid (HP9.out.keep hcd); clear hod hcd))
          have HZO : Hid (z.over = true) := Lib.hid ((ref.tiesN.over HRE.out).trans HOV.out)
          have HZS : Hid (z.steps = y.steps) := Lib.hid (ref.tiesN.steps HRE.out)
          have HZC : Hid (z.code = y.code) := Lib.hid (ref.tiesN.code HRE.out)
          have HWF : Hid (∀ u ∈ (pokeL t ps ws), (Lit.int .u32 u).wf = true) := Lib.hid HDD.out.memory.wf
          have HWL : Hid (((pokeL t ps ws)).length ≤ 1000000) := Lib.hid (by have h1 := HPL.out; have h2 := HSP.out; omega)
          have HCO : Hid (∀ V, Chg [] wd V → Calls Tryd.prog 40 #[.pointer (some ⟨bx, 0, none⟩)] V fun e W' => e = .returned (.bool true) ∧ Chg [] V W') := Lib.hid (fun V hV => (chen.Over_any (St.start (HPD.out.keep hV))).mono (by rintro e w' ⟨rfl, rfl⟩; exact ⟨by rw [HOV.out], Chg.refl _ _⟩))
          have HCS : Hid (∀ V, Chg [] wd V → Calls Tryd.prog 41 #[.pointer (some ⟨bx, 0, none⟩)] V fun e W' => e = .returned (.int .i64 y.steps) ∧ Chg [] V W') := Lib.hid (fun V hV => (chen.Steps_any (St.start (HPD.out.keep hV))).mono (by rintro e w' ⟨rfl, rfl⟩; exact ⟨rfl, Chg.refl _ _⟩))
          have HCM : Hid (∀ V, Chg [] wd V → Calls Tryd.prog 45 #[.pointer (some ⟨mb, 0, none⟩)] V fun e W' => e = .returned (.int .i64 n6) ∧ Chg [] V W') := Lib.hid (fun V hV => (mem.Steps_any mb sv (pokeL t ps ws) n6 _ (HDD.out.keep hV).memory).mono (by rintro e w' ⟨rfl, rfl⟩; exact ⟨rfl, Chg.refl _ _⟩))
          have HCL : Hid (∀ V, Chg [] wd V → Calls Tryd.prog 47 #[.pointer (some ⟨mb, 0, none⟩)] V fun e W' => ∃ vw, e = .returned vw ∧ OwnW W' V.heap.size vw (pokeL t ps ws) ∧ Chg [] V W') := Lib.hid (fun V hV => Words_ok mb sv (pokeL t ps ws) n6 _ (HDD.out.keep hV).memory)
          have HCP : Hid (∀ V vw B, Chg [] wd V → OwnW V B vw (pokeL t ps ws) → Calls Tryd.prog 21 #[vw, (.slice a2 l.length cc2)] V fun e W' => e = .returned (.bool true) ∧ Chg [] V W') := Lib.hid (fun V vw B hV hW => (Words_any _ _ (pokeL t ps ws) (pokeL t ps ws) _ (OwnW.reads hW HWF.out) (OwnW.reads (HDD.out.keep hV).row HWF.out) HWL.out HWL.out).mono (by rintro e w' ⟨rfl, hq⟩; exact ⟨by rw [show wordsB (pokeL t ps ws) (pokeL t ps ws) = true from by simp [wordsB]], quiet_chg hq⟩))
          have eS0 : wd.cell? ⟨ry, 39, none⟩ = some (.bool true) := by rw [← HZO.out]; exact HDD.out.box.cell rfl
          have eS1 : wd.cell? ⟨ry, 15, none⟩ = some (.int .i64 y.steps) := by rw [← HZS.out]; exact HDD.out.box.cell rfl
          have KEEP := Lib.hid (fun (V : World) (h : Chg [] wd V) => (⟨h.keep eS0 (by simp), h.keep eS1 (by simp), Lib.hid h⟩ : (fun V : World => V.cell? ⟨ry, 39, none⟩ = some (.bool true) ∧ V.cell? ⟨ry, 15, none⟩ = some (.int .i64 y.steps) ∧ Hid (Chg [] wd V)) V))
          clear eS0 eS1
          have hHeld : (fun V : World => V.cell? ⟨ry, 39, none⟩ = some (.bool true) ∧ V.cell? ⟨ry, 15, none⟩ = some (.int .i64 y.steps) ∧ Hid (Chg [] wd V)) (World.drew wd) := KEEP.out _ (Chg.refl _ _).drew
          refine wp_region_plan (fun V : World => V.cell? ⟨ry, 39, none⟩ = some (.bool true) ∧ V.cell? ⟨ry, 15, none⟩ = some (.int .i64 y.steps) ∧ Hid (Chg [] wd V)) [(0, true, some 110), (1, true, some 111), (2, true, some 112), (3, true, some 113), (4, true, some 114), (6, true, some 116), (7, true, some 117), (8, true, some 118), (9, true, some 119), (5, false, some 115), (10, true, some 120), (11, true, some 121), (12, true, some 122), (13, true, some 123), (15, true, some 125), (16, true, some 126), (17, true, some 127), (18, true, some 128), (14, false, some 124), (19, true, some 129), (20, true, some 130), (21, true, some 131), (22, true, some 132), (24, true, some 134), (23, false, some 133), (25, false, some 135), (26, true, some 136), (27, true, some 137), (28, true, some 138), (29, true, some 139), (30, true, some 140), (31, true, some 141), (33, true, some 143), (34, true, some 144), (32, false, some 142), (35, true, some 145), (36, true, some 146), (37, true, some 147), (38, true, some 148), (39, true, some 149), (40, true, some 150), (41, true, some 151), (42, true, some 152), (44, true, some 154), (43, false, some 153), (45, true, some 155), (46, true, some 156), (47, true, some 157)] (by kernel_rfl) (by kernel_rfl) (by kernel_rfl) (by kernel_rfl) (fun d c a v w h => by cases d <;> exact h) hHeld ?_
          repeat (first
            | (refine planWp_read (v := ?_) rfl rfl ?_ ?_ ?_; rotate_left; (focus rfl); (focus (intro u hSw; (try dsimp only at hSw); go_simp; (try with_reducible rfl))); (try simp only [Act.put, List.setIfInBounds_toArray, List.set_cons_zero, List.set_cons_succ]))
            | (refine planWp_skip rfl rfl ?_ ?_; (focus rfl); (try simp only [Act.put, List.setIfInBounds_toArray, List.set_cons_zero, List.set_cons_succ]))
            | (refine planWp_leave rfl rfl ?_ hHeld ?_; (focus rfl); (try simp only [Act.put, List.setIfInBounds_toArray, List.set_cons_zero, List.set_cons_succ]))
            | (refine planWp_do rfl rfl ?_ (fun K hK => ?_); (focus rfl); go_simp; (try go_wp2_with (first | (go_at_call 40; refine (HCO.out _ hHeld.2.2.out).mono ?_; rintro e wx ⟨rfl, hcx⟩; have HCX := Lib.hid hcx; clear hcx) | (go_at_call 41; refine (HCS.out _ hHeld.2.2.out).mono ?_; rintro e wx ⟨rfl, hcx⟩; have HCX := Lib.hid hcx; clear hcx) | (go_at_call 47; refine (HCL.out _ hHeld.2.2.out).mono ?_; rintro e wx ⟨vw, rfl, how, hcx⟩; have HOW := Lib.hid how; have HCX := Lib.hid hcx; clear how hcx) | (go_at_call 21; refine (HCP.out _ _ _ hHeld.2.2.out HOW.out).mono ?_; rintro e wx ⟨rfl, hcx⟩; have HCX := Lib.hid hcx; clear hcx) | (go_at_call 45; refine (HCM.out _ hHeld.2.2.out).mono ?_; rintro e wx ⟨rfl, hcx⟩; have HCX := Lib.hid hcx; clear hcx))); refine hK.out _ _ ?_ (fun hHeld2 => ?_); (focus (exact KEEP.out _ (Chg.trans hHeld.2.2.out HCX.out))); clear hK K hHeld; have hHeld := hHeld2; clear hHeld2; (try simp only [Act.put, List.setIfInBounds_toArray, List.set_cons_zero, List.set_cons_succ])))
          refine planWp_nil ?_
          have HR9 := Lib.hid hHeld.2.2.out
          clear hHeld KEEP
          refine rop.then_gen (R := fun V => Hid (Chg [] wd V)) HR9 ?_
          clear HR9
          rintro wf HR9
          have HDF := Lib.hid (HDD.out.keep HR9.out)
          have HOF := Lib.hid (mem.own_chg HOD.out HR9.out (by simp))
          have e39 : wf.cell? ⟨ry, 39, none⟩ = some (.bool true) := by rw [← HZO.out]; exact HDF.out.box.cell rfl
          have e38 : wf.cell? ⟨ry, 38, none⟩ = some z.rcd := HDF.out.box.cell rfl
          have e14 : wf.cell? ⟨ry, 14, none⟩ = some (.int .i64 y.code) := by rw [← HZC.out]; exact HDF.out.box.cell rfl
          have HRW : Hid (∀ u ∈ rc_, (Lit.int .u32 u).wf = true) := Lib.hid HPD.out.wf
          have HRN : Hid ((rc_).length ≤ 1000000) := Lib.hid (Nat.le_trans HPD.out.short (by omega))
          have HCR : Hid (Calls Tryd.prog 21 #[.slice ad (rc_).length cd, z.rcd] wf fun e W' => e = .returned (.bool true) ∧ Chg [] wf W') := Lib.hid ((Words_any _ _ rc_ rc_ _ (OwnW.reads HOF.out HRW.out) (OwnW.reads HDF.out.own HRW.out) HRN.out HRN.out).mono (by rintro e w' ⟨rfl, hq⟩; exact ⟨by rw [show wordsB rc_ rc_ = true from by simp [wordsB]], quiet_chg hq⟩))
          go_wp2_with (first | (go_at_call 21; refine HCR.out.mono ?_; rintro e wg ⟨rfl, hq⟩; have HDG := Lib.hid (HDF.out.keep hq); have e39 : wg.cell? ⟨ry, 39, none⟩ = some (.bool true) := hq.keep e39 (by simp); have e14 : wg.cell? ⟨ry, 14, none⟩ = some (.int .i64 y.code) := hq.keep e14 (by simp); clear hq) | (go_at_call 24; refine (chen.awake_any _ (HTA.out.keep HDG.out.chg)).mono ?_; rintro e wz ⟨rfl, hcz⟩; have HZ := Lib.hid hcz; clear hcz))
          go_ret
          exact ⟨rfl, (HCA.out.trans (HDG.out.chg.trans HZ.out)).below⟩
      · have HOP := Lib.hid hop
        clear hop
        obtain ⟨g2, hg2⟩ : ∃ g, a2 = some ⟨g, 0, none⟩ := by
          have h1 := opens_fit HOP.out
          have hne : 0 < ws.length := by have h2 := HPL.out; have h3 := HIN.out; have h4 := HNP.out; rw [h2] at h1; omega
          obtain ⟨g, cp, he, _⟩ := ref.own_some HD.out.row hne
          exact ⟨g, by simp at he; exact he.1⟩
        subst hg2
        obtain ⟨q, hq⟩ : ∃ q, chen.K.step y (.pointer (some ⟨mb, 0, none⟩)) rc_ (pokeL t ps ws) = q := ⟨_, rfl⟩
        have HQ := Lib.hid hq
        clear hq
        cases hov : q.1.over
        · -- a step; afterwards over: false
          have HOV := Lib.hid hov
          clear hov
          have e0 : wr.cell? ⟨W.heap.size, 0, none⟩ = some (.int .i64 k) := HB.out.cell rfl
          have e1 : wr.cell? ⟨W.heap.size, 1, none⟩ = some (.int .i64 w) := HB.out.cell rfl
          have e2 : wr.cell? ⟨W.heap.size, 2, none⟩ = some (.int .i64 s) := HB.out.cell rfl
          have e3 : wr.cell? ⟨W.heap.size, 3, none⟩ = some (.int .i64 c) := HB.out.cell rfl
          have e4 : wr.cell? ⟨W.heap.size, 4, none⟩ = some (.int .u32 st) := HB.out.cell rfl
          have e5 : wr.cell? ⟨W.heap.size, 5, none⟩ = some (.slice ia il ic) := HB.out.cell rfl
          have e6 : wr.cell? ⟨W.heap.size, 6, none⟩ = some (.int .i64 wri) := HB.out.cell rfl
          have e7 : wr.cell? ⟨W.heap.size, 7, none⟩ = some (.slice ra rl rc) := HB.out.cell rfl
          have e8 : wr.cell? ⟨W.heap.size, 8, none⟩ = some (.int .i64 at_) := HB.out.cell rfl
          have e9 : wr.cell? ⟨W.heap.size, 9, none⟩ = some (.int .i64 op) := HB.out.cell rfl
          have e10 : wr.cell? ⟨W.heap.size, 10, none⟩ = some (.int .i64 rd_) := HB.out.cell rfl
          have e11 : wr.cell? ⟨W.heap.size, 11, none⟩ = some (.slice qa ql qc) := HB.out.cell rfl
          have e12 : wr.cell? ⟨W.heap.size, 12, none⟩ = some (.slice la ll lc) := HB.out.cell rfl
          have e13 : wr.cell? ⟨W.heap.size, 13, none⟩ = some (.slice pa pl pc) := HB.out.cell rfl
          go_wp2_with (first
            | (go_at_call 34; refine (Poked_any k w s c st ia il ic wri ra rl rc at_ op rd_ qa ql qc la ll lc pa pl pc t mb sv (.slice (some ⟨g2, 0, none⟩) l.length cc2) ps ws ws n _ (HPS.out.chg (HCA.out.trans HD.out.chg)) (by have := HSP.out; omega) HD.out.memory HD.out.row rfl (by have := HIN.out; have := HSP.out; omega) (by have h1 := HIN.out; have h2 := HLT.out; omega) (fun z hz => ⟨(HD.out.fl z hz).2.2.1, (HD.out.fl z hz).2.2.2⟩) (fun hpl z hz => HD.out.far (by have h1 := ReadsP.lt HPS.out (by have := HPN.out; omega) z hz; have h0 := HCA.out.size; omega))).mono ?_; rintro e w6 ⟨rfl, n6, hn6, hm6, hl6, hc6⟩; have HD6 := Lib.hid (HD.out.poke hm6 hl6 hc6); have HN6 := Lib.hid hn6; have hw6 : IntKind.i64.wrap (n6 + 1) = n6 + 1 := (by have h1 := HIN.out; have h2 := HLT.out; rw [IntKind.wrap_i64]; omega); clear hm6 hl6 hc6 hn6; obtain ⟨v6, hp6, hv6⟩ := HD6.out.pair; have HP6 := Lib.hid hp6; have HV6 := Lib.hid hv6; clear hp6 hv6 e0 e1 e2 e3 e4 e5 e6 e7 e8 e9 e10 e11 e12 e13)
            | (go_at_call 45; refine (mem.Steps_any mb sv (pokeL t ps ws) n6 _ HD6.out.memory).mono ?_; rintro e w7 ⟨rfl, rfl⟩)
            | (go_at_call 39; refine (chen.Step_yes (tabs HTA.out HD6.out.chg HD6.out.fb HD6.out.fm HD6.out.fs (fun y hy => (HV6.out y hy).1)) HIN.out.1 (by have h1 := HIN.out; have h2 := HLT.out; omega) HOP.out (by have h1 := HIN.out; have h2 := HLT.out; have h4 := HN6.out; omega) (St.start HP6.out)).mono ?_; rintro e w8 ⟨rfl, hx⟩; rw [show chen.step y (.pointer (some ⟨mb, 0, none⟩)) rc_ (pokeL t ps ws) = q from HQ.out] at hx; have HD8 := Lib.hid (HD6.out.mine HV6.out hx); clear hx)
            | (go_at_call 46; refine (ref.Ties.step ref.tiesN (.pointer (some ⟨mb, 0, none⟩)) HD8.out HIN.out.1 HIN.out.2.1 HOP.out (by have h1 := HIN.out; have h2 := HLT.out; omega) (by have h1 := HPL.out; have h2 := HSP.out; omega) HD6.out.memory.range).mono ?_; rintro e w9 ⟨rfl, z9, hrel9, hd9⟩; rw [HQ.out] at hrel9 hd9; have HRE := Lib.hid hrel9; have HD9 := Lib.hid hd9; obtain ⟨v9, hp9, hv9⟩ := hd9.pair; have HP9 := Lib.hid hp9; clear hrel9 hd9 hp9 hv9)
            | (go_at_call 42; refine (chen.Answer_any HP9.out).mono ?_; rintro e wd ⟨vd, rfl, hod, hcd⟩; rw [HOV.out] at hod; rw [HOV.out]; simp only [if_true, if_false, Bool.false_eq_true] at hod; obtain ⟨ad, cd, hvd⟩ := ref.own_slice (own_base hod (Nat.zero_le _)); subst hvd; have HOD := Lib.hid hod; have HDD := Lib.hid (HD9.out.keep hcd); have HPD := Lib.hid (HP9.out.keep hcd); clear hod hcd))
          have HZO : Hid (z9.over = false) := Lib.hid ((ref.tiesN.over HRE.out).trans HOV.out)
          have HZS : Hid (z9.steps = q.1.steps) := Lib.hid (ref.tiesN.steps HRE.out)
          have HZC : Hid (z9.code = q.1.code) := Lib.hid (ref.tiesN.code HRE.out)
          have HWF : Hid (∀ u ∈ q.2.2, (Lit.int .u32 u).wf = true) := Lib.hid HDD.out.memory.wf
          have HWL : Hid ((q.2.2).length ≤ 1000000) := Lib.hid (by have h1 := HPL.out; have h2 := HSP.out; have h3 := (congrArg (fun (q : Q) => q.2.2.length) HQ.out).symm.trans (chen.K.len y (.pointer (some ⟨mb, 0, none⟩)) rc_ (pokeL t ps ws)); omega)
          have HCO : Hid (∀ V, Chg [] wd V → Calls Tryd.prog 40 #[.pointer (some ⟨bx, 0, none⟩)] V fun e W' => e = .returned (.bool false) ∧ Chg [] V W') := Lib.hid (fun V hV => (chen.Over_any (St.start (HPD.out.keep hV))).mono (by rintro e w' ⟨rfl, rfl⟩; exact ⟨by rw [HOV.out], Chg.refl _ _⟩))
          have HCS : Hid (∀ V, Chg [] wd V → Calls Tryd.prog 41 #[.pointer (some ⟨bx, 0, none⟩)] V fun e W' => e = .returned (.int .i64 q.1.steps) ∧ Chg [] V W') := Lib.hid (fun V hV => (chen.Steps_any (St.start (HPD.out.keep hV))).mono (by rintro e w' ⟨rfl, rfl⟩; exact ⟨rfl, Chg.refl _ _⟩))
          have HCM : Hid (∀ V, Chg [] wd V → Calls Tryd.prog 45 #[.pointer (some ⟨mb, 0, none⟩)] V fun e W' => e = .returned (.int .i64 (n6 + 1)) ∧ Chg [] V W') := Lib.hid (fun V hV => (mem.Steps_any mb sv q.2.2 (n6 + 1) _ (HDD.out.keep hV).memory).mono (by rintro e w' ⟨rfl, rfl⟩; exact ⟨rfl, Chg.refl _ _⟩))
          have HCL : Hid (∀ V, Chg [] wd V → Calls Tryd.prog 47 #[.pointer (some ⟨mb, 0, none⟩)] V fun e W' => ∃ vw, e = .returned vw ∧ OwnW W' V.heap.size vw q.2.2 ∧ Chg [] V W') := Lib.hid (fun V hV => Words_ok mb sv q.2.2 (n6 + 1) _ (HDD.out.keep hV).memory)
          have HCP : Hid (∀ V vw B, Chg [] wd V → OwnW V B vw q.2.2 → Calls Tryd.prog 21 #[vw, (.slice (some ⟨g2, 0, none⟩) l.length cc2)] V fun e W' => e = .returned (.bool true) ∧ Chg [] V W') := Lib.hid (fun V vw B hV hW => (Words_any _ _ q.2.2 q.2.2 _ (OwnW.reads hW HWF.out) (OwnW.reads (HDD.out.keep hV).row HWF.out) HWL.out HWL.out).mono (by rintro e w' ⟨rfl, hq⟩; exact ⟨by rw [show wordsB q.2.2 q.2.2 = true from by simp [wordsB]], quiet_chg hq⟩))
          have eS0 : wd.cell? ⟨ry, 39, none⟩ = some (.bool false) := by rw [← HZO.out]; exact HDD.out.box.cell rfl
          have eS1 : wd.cell? ⟨ry, 15, none⟩ = some (.int .i64 q.1.steps) := by rw [← HZS.out]; exact HDD.out.box.cell rfl
          have KEEP := Lib.hid (fun (V : World) (h : Chg [] wd V) => (⟨h.keep eS0 (by simp), h.keep eS1 (by simp), Lib.hid h⟩ : (fun V : World => V.cell? ⟨ry, 39, none⟩ = some (.bool false) ∧ V.cell? ⟨ry, 15, none⟩ = some (.int .i64 q.1.steps) ∧ Hid (Chg [] wd V)) V))
          clear eS0 eS1
          have hHeld : (fun V : World => V.cell? ⟨ry, 39, none⟩ = some (.bool false) ∧ V.cell? ⟨ry, 15, none⟩ = some (.int .i64 q.1.steps) ∧ Hid (Chg [] wd V)) (World.drew wd) := KEEP.out _ (Chg.refl _ _).drew
          refine wp_region_plan (fun V : World => V.cell? ⟨ry, 39, none⟩ = some (.bool false) ∧ V.cell? ⟨ry, 15, none⟩ = some (.int .i64 q.1.steps) ∧ Hid (Chg [] wd V)) [(0, true, some 110), (1, true, some 111), (2, true, some 112), (3, true, some 113), (4, true, some 114), (6, true, some 116), (7, true, some 117), (8, true, some 118), (9, true, some 119), (5, false, some 115), (10, true, some 120), (11, true, some 121), (12, true, some 122), (13, true, some 123), (15, true, some 125), (16, true, some 126), (17, true, some 127), (18, true, some 128), (14, false, some 124), (19, true, some 129), (20, true, some 130), (21, true, some 131), (22, true, some 132), (24, true, some 134), (23, false, some 133), (25, false, some 135), (26, true, some 136), (27, true, some 137), (28, true, some 138), (29, true, some 139), (30, true, some 140), (31, true, some 141), (33, true, some 143), (34, true, some 144), (32, false, some 142), (35, true, some 145), (36, true, some 146), (37, true, some 147), (38, true, some 148), (39, true, some 149), (40, true, some 150), (41, true, some 151), (42, true, some 152), (44, true, some 154), (43, false, some 153), (45, true, some 155), (46, true, some 156), (47, true, some 157)] (by kernel_rfl) (by kernel_rfl) (by kernel_rfl) (by kernel_rfl) (fun d c a v w h => by cases d <;> exact h) hHeld ?_
          repeat (first
            | (refine planWp_read (v := ?_) rfl rfl ?_ ?_ ?_; rotate_left; (focus rfl); (focus (intro u hSw; (try dsimp only at hSw); go_simp; (try with_reducible rfl))); (try simp only [Act.put, List.setIfInBounds_toArray, List.set_cons_zero, List.set_cons_succ]))
            | (refine planWp_skip rfl rfl ?_ ?_; (focus rfl); (try simp only [Act.put, List.setIfInBounds_toArray, List.set_cons_zero, List.set_cons_succ]))
            | (refine planWp_leave rfl rfl ?_ hHeld ?_; (focus rfl); (try simp only [Act.put, List.setIfInBounds_toArray, List.set_cons_zero, List.set_cons_succ]))
            | (refine planWp_do rfl rfl ?_ (fun K hK => ?_); (focus rfl); go_simp; (try go_wp2_with (first | (go_at_call 40; refine (HCO.out _ hHeld.2.2.out).mono ?_; rintro e wx ⟨rfl, hcx⟩; have HCX := Lib.hid hcx; clear hcx) | (go_at_call 41; refine (HCS.out _ hHeld.2.2.out).mono ?_; rintro e wx ⟨rfl, hcx⟩; have HCX := Lib.hid hcx; clear hcx) | (go_at_call 47; refine (HCL.out _ hHeld.2.2.out).mono ?_; rintro e wx ⟨vw, rfl, how, hcx⟩; have HOW := Lib.hid how; have HCX := Lib.hid hcx; clear how hcx) | (go_at_call 21; refine (HCP.out _ _ _ hHeld.2.2.out HOW.out).mono ?_; rintro e wx ⟨rfl, hcx⟩; have HCX := Lib.hid hcx; clear hcx) | (go_at_call 45; refine (HCM.out _ hHeld.2.2.out).mono ?_; rintro e wx ⟨rfl, hcx⟩; have HCX := Lib.hid hcx; clear hcx))); refine hK.out _ _ ?_ (fun hHeld2 => ?_); (focus (exact KEEP.out _ (Chg.trans hHeld.2.2.out HCX.out))); clear hK K hHeld; have hHeld := hHeld2; clear hHeld2; (try simp only [Act.put, List.setIfInBounds_toArray, List.set_cons_zero, List.set_cons_succ])))
          refine planWp_nil ?_
          have HR9 := Lib.hid hHeld.2.2.out
          clear hHeld KEEP
          refine rop.then_gen (R := fun V => Hid (Chg [] wd V)) HR9 ?_
          clear HR9
          rintro wf HR9
          have HDF := Lib.hid (HDD.out.keep HR9.out)
          have HOF := Lib.hid (mem.own_chg HOD.out HR9.out (by simp))
          have e39 : wf.cell? ⟨ry, 39, none⟩ = some (.bool false) := by rw [← HZO.out]; exact HDF.out.box.cell rfl
          have c3 := HLT.out
          go_wp2_with fail
          go_roundw
          case rel =>
            have h1 := HIN.out
            have hok := chen.K.ok (.pointer (some ⟨mb, 0, none⟩)) HIN.out.1 (opens_over HOP.out) HD6.out.memory.range
            rw [HQ.out] at hok
            refine ⟨t + 1, q.1, q.2.1, q.2.2, n6 + 1, z9, by omega, by go_num, HDF, Lib.hid ⟨hok.1, HRE.out, by rw [hok.2.2.1]; omega, by rw [hok.2.2.2.2.1]; exact h1.2.2.2.1, by rw [hok.2.2.2.2.2]; exact h1.2.2.2.2.1, ?_, by have := HN6.out; omega, by have := HN6.out; push_cast; omega⟩⟩
            have h3 := (congrArg (fun (q : Q) => q.2.2.length) HQ.out).symm.trans (chen.K.len y (.pointer (some ⟨mb, 0, none⟩)) rc_ (pokeL t ps ws))
            exact h3.trans HPL.out
          case measure => simp [intOf]; omega
        · -- a step; afterwards over: true
          have HOV := Lib.hid hov
          clear hov
          have e0 : wr.cell? ⟨W.heap.size, 0, none⟩ = some (.int .i64 k) := HB.out.cell rfl
          have e1 : wr.cell? ⟨W.heap.size, 1, none⟩ = some (.int .i64 w) := HB.out.cell rfl
          have e2 : wr.cell? ⟨W.heap.size, 2, none⟩ = some (.int .i64 s) := HB.out.cell rfl
          have e3 : wr.cell? ⟨W.heap.size, 3, none⟩ = some (.int .i64 c) := HB.out.cell rfl
          have e4 : wr.cell? ⟨W.heap.size, 4, none⟩ = some (.int .u32 st) := HB.out.cell rfl
          have e5 : wr.cell? ⟨W.heap.size, 5, none⟩ = some (.slice ia il ic) := HB.out.cell rfl
          have e6 : wr.cell? ⟨W.heap.size, 6, none⟩ = some (.int .i64 wri) := HB.out.cell rfl
          have e7 : wr.cell? ⟨W.heap.size, 7, none⟩ = some (.slice ra rl rc) := HB.out.cell rfl
          have e8 : wr.cell? ⟨W.heap.size, 8, none⟩ = some (.int .i64 at_) := HB.out.cell rfl
          have e9 : wr.cell? ⟨W.heap.size, 9, none⟩ = some (.int .i64 op) := HB.out.cell rfl
          have e10 : wr.cell? ⟨W.heap.size, 10, none⟩ = some (.int .i64 rd_) := HB.out.cell rfl
          have e11 : wr.cell? ⟨W.heap.size, 11, none⟩ = some (.slice qa ql qc) := HB.out.cell rfl
          have e12 : wr.cell? ⟨W.heap.size, 12, none⟩ = some (.slice la ll lc) := HB.out.cell rfl
          have e13 : wr.cell? ⟨W.heap.size, 13, none⟩ = some (.slice pa pl pc) := HB.out.cell rfl
          go_wp2_with (first
            | (go_at_call 34; refine (Poked_any k w s c st ia il ic wri ra rl rc at_ op rd_ qa ql qc la ll lc pa pl pc t mb sv (.slice (some ⟨g2, 0, none⟩) l.length cc2) ps ws ws n _ (HPS.out.chg (HCA.out.trans HD.out.chg)) (by have := HSP.out; omega) HD.out.memory HD.out.row rfl (by have := HIN.out; have := HSP.out; omega) (by have h1 := HIN.out; have h2 := HLT.out; omega) (fun z hz => ⟨(HD.out.fl z hz).2.2.1, (HD.out.fl z hz).2.2.2⟩) (fun hpl z hz => HD.out.far (by have h1 := ReadsP.lt HPS.out (by have := HPN.out; omega) z hz; have h0 := HCA.out.size; omega))).mono ?_; rintro e w6 ⟨rfl, n6, hn6, hm6, hl6, hc6⟩; have HD6 := Lib.hid (HD.out.poke hm6 hl6 hc6); have HN6 := Lib.hid hn6; have hw6 : IntKind.i64.wrap (n6 + 1) = n6 + 1 := (by have h1 := HIN.out; have h2 := HLT.out; rw [IntKind.wrap_i64]; omega); clear hm6 hl6 hc6 hn6; obtain ⟨v6, hp6, hv6⟩ := HD6.out.pair; have HP6 := Lib.hid hp6; have HV6 := Lib.hid hv6; clear hp6 hv6 e0 e1 e2 e3 e4 e5 e6 e7 e8 e9 e10 e11 e12 e13)
            | (go_at_call 45; refine (mem.Steps_any mb sv (pokeL t ps ws) n6 _ HD6.out.memory).mono ?_; rintro e w7 ⟨rfl, rfl⟩)
            | (go_at_call 39; refine (chen.Step_yes (tabs HTA.out HD6.out.chg HD6.out.fb HD6.out.fm HD6.out.fs (fun y hy => (HV6.out y hy).1)) HIN.out.1 (by have h1 := HIN.out; have h2 := HLT.out; omega) HOP.out (by have h1 := HIN.out; have h2 := HLT.out; have h4 := HN6.out; omega) (St.start HP6.out)).mono ?_; rintro e w8 ⟨rfl, hx⟩; rw [show chen.step y (.pointer (some ⟨mb, 0, none⟩)) rc_ (pokeL t ps ws) = q from HQ.out] at hx; have HD8 := Lib.hid (HD6.out.mine HV6.out hx); clear hx)
            | (go_at_call 46; refine (ref.Ties.step ref.tiesN (.pointer (some ⟨mb, 0, none⟩)) HD8.out HIN.out.1 HIN.out.2.1 HOP.out (by have h1 := HIN.out; have h2 := HLT.out; omega) (by have h1 := HPL.out; have h2 := HSP.out; omega) HD6.out.memory.range).mono ?_; rintro e w9 ⟨rfl, z9, hrel9, hd9⟩; rw [HQ.out] at hrel9 hd9; have HRE := Lib.hid hrel9; have HD9 := Lib.hid hd9; obtain ⟨v9, hp9, hv9⟩ := hd9.pair; have HP9 := Lib.hid hp9; clear hrel9 hd9 hp9 hv9)
            | (go_at_call 42; refine (chen.Answer_any HP9.out).mono ?_; rintro e wd ⟨vd, rfl, hod, hcd⟩; rw [HOV.out] at hod; rw [HOV.out]; simp only [if_true, if_false, Bool.false_eq_true] at hod; obtain ⟨ad, cd, hvd⟩ := ref.own_slice (own_base hod (Nat.zero_le _)); subst hvd; have HOD := Lib.hid hod; have HDD := Lib.hid (HD9.out.keep hcd); have HPD := Lib.hid (HP9.out.keep hcd); clear hod hcd))
          have HZO : Hid (z9.over = true) := Lib.hid ((ref.tiesN.over HRE.out).trans HOV.out)
          have HZS : Hid (z9.steps = q.1.steps) := Lib.hid (ref.tiesN.steps HRE.out)
          have HZC : Hid (z9.code = q.1.code) := Lib.hid (ref.tiesN.code HRE.out)
          have HWF : Hid (∀ u ∈ q.2.2, (Lit.int .u32 u).wf = true) := Lib.hid HDD.out.memory.wf
          have HWL : Hid ((q.2.2).length ≤ 1000000) := Lib.hid (by have h1 := HPL.out; have h2 := HSP.out; have h3 := (congrArg (fun (q : Q) => q.2.2.length) HQ.out).symm.trans (chen.K.len y (.pointer (some ⟨mb, 0, none⟩)) rc_ (pokeL t ps ws)); omega)
          have HCO : Hid (∀ V, Chg [] wd V → Calls Tryd.prog 40 #[.pointer (some ⟨bx, 0, none⟩)] V fun e W' => e = .returned (.bool true) ∧ Chg [] V W') := Lib.hid (fun V hV => (chen.Over_any (St.start (HPD.out.keep hV))).mono (by rintro e w' ⟨rfl, rfl⟩; exact ⟨by rw [HOV.out], Chg.refl _ _⟩))
          have HCS : Hid (∀ V, Chg [] wd V → Calls Tryd.prog 41 #[.pointer (some ⟨bx, 0, none⟩)] V fun e W' => e = .returned (.int .i64 q.1.steps) ∧ Chg [] V W') := Lib.hid (fun V hV => (chen.Steps_any (St.start (HPD.out.keep hV))).mono (by rintro e w' ⟨rfl, rfl⟩; exact ⟨rfl, Chg.refl _ _⟩))
          have HCM : Hid (∀ V, Chg [] wd V → Calls Tryd.prog 45 #[.pointer (some ⟨mb, 0, none⟩)] V fun e W' => e = .returned (.int .i64 (n6 + 1)) ∧ Chg [] V W') := Lib.hid (fun V hV => (mem.Steps_any mb sv q.2.2 (n6 + 1) _ (HDD.out.keep hV).memory).mono (by rintro e w' ⟨rfl, rfl⟩; exact ⟨rfl, Chg.refl _ _⟩))
          have HCL : Hid (∀ V, Chg [] wd V → Calls Tryd.prog 47 #[.pointer (some ⟨mb, 0, none⟩)] V fun e W' => ∃ vw, e = .returned vw ∧ OwnW W' V.heap.size vw q.2.2 ∧ Chg [] V W') := Lib.hid (fun V hV => Words_ok mb sv q.2.2 (n6 + 1) _ (HDD.out.keep hV).memory)
          have HCP : Hid (∀ V vw B, Chg [] wd V → OwnW V B vw q.2.2 → Calls Tryd.prog 21 #[vw, (.slice (some ⟨g2, 0, none⟩) l.length cc2)] V fun e W' => e = .returned (.bool true) ∧ Chg [] V W') := Lib.hid (fun V vw B hV hW => (Words_any _ _ q.2.2 q.2.2 _ (OwnW.reads hW HWF.out) (OwnW.reads (HDD.out.keep hV).row HWF.out) HWL.out HWL.out).mono (by rintro e w' ⟨rfl, hq⟩; exact ⟨by rw [show wordsB q.2.2 q.2.2 = true from by simp [wordsB]], quiet_chg hq⟩))
          have eS0 : wd.cell? ⟨ry, 39, none⟩ = some (.bool true) := by rw [← HZO.out]; exact HDD.out.box.cell rfl
          have eS1 : wd.cell? ⟨ry, 15, none⟩ = some (.int .i64 q.1.steps) := by rw [← HZS.out]; exact HDD.out.box.cell rfl
          have KEEP := Lib.hid (fun (V : World) (h : Chg [] wd V) => (⟨h.keep eS0 (by simp), h.keep eS1 (by simp), Lib.hid h⟩ : (fun V : World => V.cell? ⟨ry, 39, none⟩ = some (.bool true) ∧ V.cell? ⟨ry, 15, none⟩ = some (.int .i64 q.1.steps) ∧ Hid (Chg [] wd V)) V))
          clear eS0 eS1
          have hHeld : (fun V : World => V.cell? ⟨ry, 39, none⟩ = some (.bool true) ∧ V.cell? ⟨ry, 15, none⟩ = some (.int .i64 q.1.steps) ∧ Hid (Chg [] wd V)) (World.drew wd) := KEEP.out _ (Chg.refl _ _).drew
          refine wp_region_plan (fun V : World => V.cell? ⟨ry, 39, none⟩ = some (.bool true) ∧ V.cell? ⟨ry, 15, none⟩ = some (.int .i64 q.1.steps) ∧ Hid (Chg [] wd V)) [(0, true, some 110), (1, true, some 111), (2, true, some 112), (3, true, some 113), (4, true, some 114), (6, true, some 116), (7, true, some 117), (8, true, some 118), (9, true, some 119), (5, false, some 115), (10, true, some 120), (11, true, some 121), (12, true, some 122), (13, true, some 123), (15, true, some 125), (16, true, some 126), (17, true, some 127), (18, true, some 128), (14, false, some 124), (19, true, some 129), (20, true, some 130), (21, true, some 131), (22, true, some 132), (24, true, some 134), (23, false, some 133), (25, false, some 135), (26, true, some 136), (27, true, some 137), (28, true, some 138), (29, true, some 139), (30, true, some 140), (31, true, some 141), (33, true, some 143), (34, true, some 144), (32, false, some 142), (35, true, some 145), (36, true, some 146), (37, true, some 147), (38, true, some 148), (39, true, some 149), (40, true, some 150), (41, true, some 151), (42, true, some 152), (44, true, some 154), (43, false, some 153), (45, true, some 155), (46, true, some 156), (47, true, some 157)] (by kernel_rfl) (by kernel_rfl) (by kernel_rfl) (by kernel_rfl) (fun d c a v w h => by cases d <;> exact h) hHeld ?_
          repeat (first
            | (refine planWp_read (v := ?_) rfl rfl ?_ ?_ ?_; rotate_left; (focus rfl); (focus (intro u hSw; (try dsimp only at hSw); go_simp; (try with_reducible rfl))); (try simp only [Act.put, List.setIfInBounds_toArray, List.set_cons_zero, List.set_cons_succ]))
            | (refine planWp_skip rfl rfl ?_ ?_; (focus rfl); (try simp only [Act.put, List.setIfInBounds_toArray, List.set_cons_zero, List.set_cons_succ]))
            | (refine planWp_leave rfl rfl ?_ hHeld ?_; (focus rfl); (try simp only [Act.put, List.setIfInBounds_toArray, List.set_cons_zero, List.set_cons_succ]))
            | (refine planWp_do rfl rfl ?_ (fun K hK => ?_); (focus rfl); go_simp; (try go_wp2_with (first | (go_at_call 40; refine (HCO.out _ hHeld.2.2.out).mono ?_; rintro e wx ⟨rfl, hcx⟩; have HCX := Lib.hid hcx; clear hcx) | (go_at_call 41; refine (HCS.out _ hHeld.2.2.out).mono ?_; rintro e wx ⟨rfl, hcx⟩; have HCX := Lib.hid hcx; clear hcx) | (go_at_call 47; refine (HCL.out _ hHeld.2.2.out).mono ?_; rintro e wx ⟨vw, rfl, how, hcx⟩; have HOW := Lib.hid how; have HCX := Lib.hid hcx; clear how hcx) | (go_at_call 21; refine (HCP.out _ _ _ hHeld.2.2.out HOW.out).mono ?_; rintro e wx ⟨rfl, hcx⟩; have HCX := Lib.hid hcx; clear hcx) | (go_at_call 45; refine (HCM.out _ hHeld.2.2.out).mono ?_; rintro e wx ⟨rfl, hcx⟩; have HCX := Lib.hid hcx; clear hcx))); refine hK.out _ _ ?_ (fun hHeld2 => ?_); (focus (exact KEEP.out _ (Chg.trans hHeld.2.2.out HCX.out))); clear hK K hHeld; have hHeld := hHeld2; clear hHeld2; (try simp only [Act.put, List.setIfInBounds_toArray, List.set_cons_zero, List.set_cons_succ])))
          refine planWp_nil ?_
          have HR9 := Lib.hid hHeld.2.2.out
          clear hHeld KEEP
          refine rop.then_gen (R := fun V => Hid (Chg [] wd V)) HR9 ?_
          clear HR9
          rintro wf HR9
          have HDF := Lib.hid (HDD.out.keep HR9.out)
          have HOF := Lib.hid (mem.own_chg HOD.out HR9.out (by simp))
          have e39 : wf.cell? ⟨ry, 39, none⟩ = some (.bool true) := by rw [← HZO.out]; exact HDF.out.box.cell rfl
          have e38 : wf.cell? ⟨ry, 38, none⟩ = some z9.rcd := HDF.out.box.cell rfl
          have e14 : wf.cell? ⟨ry, 14, none⟩ = some (.int .i64 q.1.code) := by rw [← HZC.out]; exact HDF.out.box.cell rfl
          have HRW : Hid (∀ u ∈ q.2.1, (Lit.int .u32 u).wf = true) := Lib.hid HPD.out.wf
          have HRN : Hid ((q.2.1).length ≤ 1000000) := Lib.hid (Nat.le_trans HPD.out.short (by omega))
          have HCR : Hid (Calls Tryd.prog 21 #[.slice ad (q.2.1).length cd, z9.rcd] wf fun e W' => e = .returned (.bool true) ∧ Chg [] wf W') := Lib.hid ((Words_any _ _ q.2.1 q.2.1 _ (OwnW.reads HOF.out HRW.out) (OwnW.reads HDF.out.own HRW.out) HRN.out HRN.out).mono (by rintro e w' ⟨rfl, hq⟩; exact ⟨by rw [show wordsB q.2.1 q.2.1 = true from by simp [wordsB]], quiet_chg hq⟩))
          have c3 := HLT.out
          go_wp2_with (go_at_call 21; refine HCR.out.mono ?_; rintro e wg ⟨rfl, hq⟩; have HDG := Lib.hid (HDF.out.keep hq); have e39 : wg.cell? ⟨ry, 39, none⟩ = some (.bool true) := hq.keep e39 (by simp); have e14 : wg.cell? ⟨ry, 14, none⟩ = some (.int .i64 q.1.code) := hq.keep e14 (by simp); clear hq)
          go_roundw
          case rel =>
            have h1 := HIN.out
            have hok := chen.K.ok (.pointer (some ⟨mb, 0, none⟩)) HIN.out.1 (opens_over HOP.out) HD6.out.memory.range
            rw [HQ.out] at hok
            refine ⟨t + 1, q.1, q.2.1, q.2.2, n6 + 1, z9, by omega, by go_num, HDG, Lib.hid ⟨hok.1, HRE.out, by rw [hok.2.2.1]; omega, by rw [hok.2.2.2.2.1]; exact h1.2.2.2.1, by rw [hok.2.2.2.2.2]; exact h1.2.2.2.2.1, ?_, by have := HN6.out; omega, by have := HN6.out; push_cast; omega⟩⟩
            have h3 := (congrArg (fun (q : Q) => q.2.2.length) HQ.out).symm.trans (chen.K.len y (.pointer (some ⟨mb, 0, none⟩)) rc_ (pokeL t ps ws))
            exact h3.trans HPL.out
          case measure => simp [intOf]; omega
    · have c2I : ¬ (t : Int) < 130 := by omega
      clear ht c2
      go_wp2_with (go_at_call 24; refine (chen.awake_any _ (HTA.out.keep HD.out.chg)).mono ?_; rintro e wz ⟨rfl, hcz⟩; have HZ := Lib.hid hcz; clear hcz)
      go_ret
      exact ⟨rfl, (HCA.out.trans (HD.out.chg.trans HZ.out)).below⟩
theorem own : ownKnob Tryd.prog.godebug = none := by kernel_rfl
theorem laidOut : laidOutB Tryd.prog = true := by kernel_rfl

/-- The walk: the law returns true, and nothing that was there has turned. -/
theorem walk (w : World) (hT : bitm.Tab w) (cs0 : Array Value) (hs0 : cs0.size = Tryd.prog.cellsOf 36) (o0 : kit.Opens Tryd.prog w 9 36 cs0.toList) :
    Calls Tryd.prog 11 #[.agg cs0] w fun e w' => e = .returned (.bool true) ∧ Below w.heap.size w w' := by
  set_option maxRecDepth 100000 in
  obtain ⟨k, wq, s, c, st, ia, il, ic, wri, ra, rl, rc, at_, op, rd_, qa, ql, qc, la, ll, lc, pa, pl, pc, hcs, hb, hat, hop, hrd, ⟨ini, hini⟩, ⟨rec, hrec⟩, ⟨l, hl⟩, ⟨ps, hps⟩⟩ := case_open (n := 4) o0
  have hcs2 : cs0 = #[.int .i64 k, .int .i64 wq, .int .i64 s, .int .i64 c, .int .u32 st, .slice ia il ic, .int .i64 wri, .slice ra rl rc, .int .i64 at_, .int .i64 op, .int .i64 rd_, .slice qa ql qc, .slice la ll lc, .slice pa pl pc] := by
    apply Array.toList_inj.1; rw [hcs]
  subst hcs2
  cases hL : lightB il rl ql ll pl
  · exact big k wq s c st ia il ic wri ra rl rc at_ op rd_ qa ql qc la ll lc pa pl pc hL w hT
  · have hL2 := hL
    simp only [lightB, Bool.and_eq_true, decide_eq_true_eq] at hL2
    have hO := hb hL2.1.1.1.1 hL2.1.1.1.2
    have hrl : rec.length ≤ 1000 := by
      have e2 : ql = rec.length := by obtain ⟨_, _, he, _⟩ := reads_slice hrec.1; simp at he; exact he.2.1
      omega
    cases hR : (decide (k = 2) && rightB k wq s c st il rl)
    · have hE : begI wq rl 0 at_ op rd_ 2 1 rec.length = 1 := by unfold begI; rw [if_pos (.inl (by omega))]
      refine none_ k wq s c st ia il ic wri ra rl rc at_ op rd_ qa ql qc la ll lc pa pl pc rec 0 hL (fun V => chen.Size_no k wq s c st ia il ic wri ra rl rc hO hR V) (by rw [hE]; omega) w hT hrec hrl (fun V hv => ?_)
      rw [hE]
      by_cases hk : k = 2
      · have hr : rightB k wq s c st il rl = false := by
          cases h2 : rightB k wq s c st il rl
          · rfl
          · rw [h2] at hR; simp [hk] at hR
        have hE2 : begI wq rl (rop.sizeI k wq s c st il rl) at_ op rd_ (writesI k) (readsI k) rec.length = 1 := by
          rw [show rop.sizeI k wq s c st il rl = 0 from by simp [rop.sizeI, hr]]
          unfold begI; rw [if_pos (.inl (by omega))]
        have h3 := ref.lBegin_bad k wq s c st ia il ic wri ra rl rc at_ op rd_ qa ql qc la ll lc pa pl pc 2 hk rec V hv hO (by rw [hE2]; omega)
        rwa [hE2] at h3
      · exact ref.lBegin_kind k wq s c st ia il ic wri ra rl rc at_ op rd_ qa ql qc la ll lc pa pl pc 2 hk V
    · have hbd := rightB_bd (by simp only [Bool.and_eq_true] at hR; exact hR.2)
      have hkr : k = 2 ∧ rightB k wq s c st il rl = true := by simpa only [Bool.and_eq_true, decide_eq_true_eq] using hR
      obtain ⟨wN, hw⟩ : ∃ wN : Nat, wq = (wN : Int) := ⟨wq.toNat, by omega⟩
      obtain ⟨N, hN⟩ : ∃ N : Nat, 1 + rl + (((rl : Int) + 2) * wq).toNat = N := ⟨_, rfl⟩
      have hnn : 0 ≤ ((rl : Int) + 2) * wq := Int.mul_nonneg (by omega) (by omega)
      have hsz : rop.sizeI k wq s c st il rl = (N : Int) := by
        rw [← hN]; obtain ⟨hk, h2⟩ := hkr; subst hk; simp [rop.sizeI, h2, rop.headI, rop.recordsI]; omega
      by_cases hB : begI wq rl (N : Int) at_ op rd_ 2 1 rec.length = 0
      · exact run k wq s c st ia il ic wri ra rl rc at_ op rd_ qa ql qc la ll lc pa pl pc N wN rec l ps w hT ⟨hL, hO, hR, hw, hN.symm, hB, hrec, hl, hps, hat⟩
      · refine none_ k wq s c st ia il ic wri ra rl rc at_ op rd_ qa ql qc la ll lc pa pl pc rec N hL (fun V => by rw [← hN]; exact chen.Size_yes k wq s c st ia il ic wri ra rl rc wN hw hO hR V) hB w hT hrec hrl (fun V hv => ?_)
        have hE2 : begI wq rl (rop.sizeI k wq s c st il rl) at_ op rd_ (writesI k) (readsI k) rec.length = begI wq rl (N : Int) at_ op rd_ 2 1 rec.length := by
          rw [hsz, hkr.1]; rfl
        have h3 := ref.lBegin_bad k wq s c st ia il ic wri ra rl rc at_ op rd_ qa ql qc la ll lc pa pl pc 2 hkr.1 rec V hv hO (by rw [hE2]; exact hB)
        rwa [hE2] at h3

set_option maxRecDepth 100000 in
theorem lifted (os : Os) (started : os.Started) (H : Type) (enc : TypeId × Value → H) :
    ReturnsInHanded {} Tryd.checked os 11 .any (fun w args => (Rows.chenStepsSpec.pre enc Tryd.prog Tryd.f11 [] false w args ∧ laidMetH Tryd.prog bitm.laids w) ∧ sizedMet enc Tryd.prog Tryd.f11 (OpenSpec.ofChange Rows.chenStepsSpec) false w args) (Rows.chenStepsSpec.post enc Tryd.prog Tryd.f11 false true false false) := by
  refine returnsInHanded_of_change_and (C := Tryd.checked) (X := fun w _ => laidMetH Tryd.prog bitm.laids w) (fun _ _ _ hh h => h.of_heap hh) own started (by kernel_rfl) Tryd.func11
    (ChangeSpec.witness_shaped (enc := enc) (C := Tryd.checked) (os := os) (X := fun w _ => laidMetH Tryd.prog bitm.laids w) false (World.doorLaid Tryd.prog 14 os) #[.agg #[.int .i64 0, .int .i64 0, .int .i64 0, .int .i64 0, .int .u32 0, .slice none 0 0, .int .i64 0, .slice none 0 0, .int .i64 0, .int .i64 0, .int .i64 0, .slice none 0 0, .slice none 0 0, .slice none 0 0]] 8 rfl (World.shaped_of_RefB (by kernel_rfl) (by kernel_rfl)) (by kernel_rfl) (by kernel_rfl) (by kernel_rfl) (bitm.door_met os _)) ?_
  intro W base args ds gs before hval0 hW hcnd _ hL _
  have hval : ∀ (j : Nat) t v, Tryd.f11.params[j]? = some t → args[j]? = some v → Value.okWide Tryd.prog W .any base t v := hval0
  have hW' := hW
  obtain ⟨p, q, hA0, hV, rfl, hfz, hnd⟩ := hW
  have hA : DataW.TrodAll enc Tryd.prog W 0 (fun _ => true) true Tryd.f11.params.toList args.toList ds p := hA0
  rw [Tryd.params11] at hA hval
  obtain ⟨v0, vs0, d0, ds0, p0, q0, hargs, rfl, rfl, h0, r0⟩ := trodAll_cons hA
  obtain ⟨rfl, rfl, rfl⟩ := trodAll_nil r0
  obtain rfl : args = #[v0] := by cases args; simp_all
  obtain ⟨rfl, rfl⟩ := trodVars_none hV
  have k0 := h0
  have lt0 : ∀ x ∈ p0, x.block < W.heap.size := by obtain ⟨m, hm⟩ := k0; exact DataW.trod_lt m _ _ _ hm
  obtain ⟨cs0, rfl, hs0⟩ := okWide_struct Tryd.underlying36 (hval 0 36 v0 rfl rfl)
  have o0 : kit.Opens Tryd.prog W 9 36 cs0.toList := by simpa [Value.cells] using kit.Trod_opens 9 k0
  clear hA0 hval0
  refine (walk W (bitm.tab_of_laid hL) cs0 hs0 o0).mono fun e W' ⟨he, bel⟩ => ?_
  subst he
  exact ⟨_, rfl, _, _, _, [], _, [], hW', trodAll_mk1 (shut_bool Tryd.underlying4 _), (trodAll_cons_mk (Below.trod laidOut (by kernel_rfl) (of_decide_eq_true (by kernel_rfl)) k0 bel lt0) trodAll_mk0), rfl, bel.frame _, fun h => by cases h⟩

theorem over : Rows.chenStepsRow.holds Tryd.pinned (OpenSpec.ofChange Rows.chenStepsSpec) :=
  OpenClaim.holds_of_wide 11 Tryd.f11 rfl rfl rfl rfl rfl rfl rfl ⟨rfl, rfl, rfl, rfl, rfl⟩ rfl rfl rfl rfl rfl (by kernel_rfl) Tryd.func11 (by kernel_rfl)
    (of_decide_eq_true (by kernel_rfl)) (by unfold Func.isWrapper; first | (rw [if_pos (by decide +kernel)]; kernel_rfl) | (rw [if_neg (by decide +kernel)]; exact ⟨rfl, rfl⟩))
    (fun os started H enc _ => lifted os started H enc)

/-- The statement: the tied card. -/
theorem proved : Rows.ChenStepsCardSaid :=
  Claim7.holds_tied_plain_at .later [] [.data] true (true, "2e2be42b2330c043c67e7858dff84d72ae4a187c610b75565135d5b7ac40942f") false
    over (fun _ h => by cases h) (by kernel_rfl) (fun _ h => by cases h) chenSteps_row_tie rfl ⟨rfl, rfl⟩ (by kernel_rfl) rfl
    (fun f fn hf hfn => by
      obtain rfl : f = 11 := Option.some.inj ((show Tryd.prog.funcNamed "coxswain/coxswainlaw15.ChenSteps" = some 11 by kernel_rfl).symm.trans hf) |>.symm
      obtain rfl : fn = Tryd.f11 := (Option.some.inj (Tryd.func11.symm.trans hfn)).symm
      exact ⟨by kernel_rfl, fun j t ht => by
        rw [Tryd.params11] at ht
        have hm : t ∈ [36] := by simpa using Array.mem_of_getElem? ht
        have hall : ([36].all fun u => !Tryd.prog.wantsStandIn u) = true := by kernel_rfl
        exact (show Tryd.prog.wantsStandIn t = false by simpa using List.all_eq_true.1 hall t hm)⟩)
    (by kernel_rfl)
end Go.Proofs.YtapaolaemkhbdaaDoor.chenSteps
