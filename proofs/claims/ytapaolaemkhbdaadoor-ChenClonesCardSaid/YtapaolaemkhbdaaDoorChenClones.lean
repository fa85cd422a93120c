/-
  coxswainlaw15.ChenClones returns true for every c and at: an operation's clone, in a memory's clone, goes on as it does. No conditions.
-/
import Derived.Test.YtapaolaemkhbdaaDoorRows
import Derived.WalkKit
import Derived.ProofKit
import Derived.OpenShut
import Derived.ShutString
import Derived.ChangeOld
import Derived.Below
import Derived.Test.YtapaolaemkhbdaaDoorOpen
import Derived.Test.YtapaolaemkhbdaaDoorTab2
import Derived.Test.YtapaolaemkhbdaaDoorCards
import Derived.Test.YtapaolaemkhbdaaDoorTie
import Derived.SevenTiedAt
import Derived.Stop.Joined
import Derived.Test.YtapaolaemkhbdaaDoorChen4
import Derived.Test.YtapaolaemkhbdaaDoorCaseA
import Derived.Deep.CutBlock
namespace Go.Proofs.YtapaolaemkhbdaaDoor.chenClones
open Go.ChangeShapes Go.WideShapes Go.ChangeAt Go.RowKit
open Go.ChangeMaps (open_string shut_string)
set_option linter.unusedVariables false
open Go.Proofs.YtapaolaemkhbdaaDoor.kit Go.Proofs.YtapaolaemkhbdaaDoor.obj Go.Proofs.YtapaolaemkhbdaaDoor.mem Go.Proofs.YtapaolaemkhbdaaDoor.core
set_option linter.unusedSimpArgs false
set_option maxRecDepth 100000
/-- the table lies where it was laid, wherever an operation goes on whose blocks are new -/
theorem tabs {T : TypeId} {bx mb : Nat} {sv r0 : Value} {W0 B : World} (hT : bitm.Tab B) (hc : Chg [] B W0) (h1 : B.heap.size ≤ bx) (h2 : B.heap.size ≤ mb) (h3 : ∀ y, sv.ownBlock = some y → B.heap.size ≤ y) (h4 : ∀ y, r0.ownBlock = some y → B.heap.size ≤ y) :
    ∀ V x' rec' ws' n', St T bx mb sv W0 r0 V x' rec' ws' n' → bitm.Tab V := by
  have hp := hT.pos
  exact St.tab (hT.keep hc) (by omega) (by omega) (fun hh => by have := h3 0 hh; omega) (fun hh => by have := h4 0 hh; omega)
set_option maxHeartbeats 4000000 in
theorem big (k w s c st : Int) (ia : Option Addr) (il ic : Nat) (wri : Int) (ra : Option Addr) (rl rc : Nat) (at_ op rd_ : Int) (qa : Option Addr) (ql qc : Nat) (la : Option Addr) (ll lc : Nat) (pa : Option Addr) (pl pc : Nat) (at2 : Int) (hl : lightB il rl ql ll pl = false) (W : World) (hT : bitm.Tab W) :
    Calls Tryd.prog 12 #[.agg #[.int .i64 k, .int .i64 w, .int .i64 s, .int .i64 c, .int .u32 st, .slice ia il ic, .int .i64 wri, .slice ra rl rc, .int .i64 at_, .int .i64 op, .int .i64 rd_, .slice qa ql qc, .slice la ll lc, .slice pa pl pc], .int .i64 at2] W fun e W' => e = .returned (.bool true) ∧ Below W.heap.size W W' := by
  have HL := Lib.hid hl
  clear hl
  have HBX : Hid (Blk (W.alloc (.cells #[.int .i64 k, .int .i64 w, .int .i64 s, .int .i64 c, .int .u32 st, .slice ia il ic, .int .i64 wri, .slice ra rl rc, .int .i64 at_, .int .i64 op, .int .i64 rd_, .slice qa ql qc, .slice la ll lc, .slice pa pl pc] 36)) W.heap.size #[.int .i64 k, .int .i64 w, .int .i64 s, .int .i64 c, .int .u32 st, .slice ia il ic, .int .i64 wri, .slice ra rl rc, .int .i64 at_, .int .i64 op, .int .i64 rd_, .slice qa ql qc, .slice la ll lc, .slice pa pl pc] 36) := Lib.hid (Blk.new W _ _)
  have HCA : Hid (Chg [] W (W.alloc (.cells #[.int .i64 k, .int .i64 w, .int .i64 s, .int .i64 c, .int .u32 st, .slice ia il ic, .int .i64 wri, .slice ra rl rc, .int .i64 at_, .int .i64 op, .int .i64 rd_, .slice qa ql qc, .slice la ll lc, .slice pa pl pc] 36))) := Lib.hid ((Chg.refl _ _).alloc _)
  have HTA : Hid (bitm.Tab (W.alloc (.cells #[.int .i64 k, .int .i64 w, .int .i64 s, .int .i64 c, .int .u32 st, .slice ia il ic, .int .i64 wri, .slice ra rl rc, .int .i64 at_, .int .i64 op, .int .i64 rd_, .slice qa ql qc, .slice la ll lc, .slice pa pl pc] 36))) := Lib.hid (hT.keep HCA.out)
  clear hT
  have HCC : Hid (Chg [] (W.alloc (.cells #[.int .i64 k, .int .i64 w, .int .i64 s, .int .i64 c, .int .u32 st, .slice ia il ic, .int .i64 wri, .slice ra rl rc, .int .i64 at_, .int .i64 op, .int .i64 rd_, .slice qa ql qc, .slice la ll lc, .slice pa pl pc] 36)) (W.alloc (.cells #[.int .i64 k, .int .i64 w, .int .i64 s, .int .i64 c, .int .u32 st, .slice ia il ic, .int .i64 wri, .slice ra rl rc, .int .i64 at_, .int .i64 op, .int .i64 rd_, .slice qa ql qc, .slice la ll lc, .slice pa pl pc] 36))) := Lib.hid (Chg.refl _ _)
  go_enter Tryd.func12, Tryd.ntmps12
  go_wp2_with (first | (go_at_call 29; refine (Light_any k w s c st ia il ic wri ra rl rc at_ op rd_ qa ql qc la ll lc pa pl pc _).mono ?_; rintro e wx ⟨rfl, hcx⟩; rw [HL.out]; have HCC := Lib.hid (HCC.out.trans hcx); have HBX := Lib.hid (HBX.out.keep hcx (by simp)); clear hcx; have e0 : wx.cell? ⟨W.heap.size, 0, none⟩ = some (.int .i64 k) := HBX.out.cell rfl; have e1 : wx.cell? ⟨W.heap.size, 1, none⟩ = some (.int .i64 w) := HBX.out.cell rfl; have e2 : wx.cell? ⟨W.heap.size, 2, none⟩ = some (.int .i64 s) := HBX.out.cell rfl; have e3 : wx.cell? ⟨W.heap.size, 3, none⟩ = some (.int .i64 c) := HBX.out.cell rfl; have e4 : wx.cell? ⟨W.heap.size, 4, none⟩ = some (.int .u32 st) := HBX.out.cell rfl; have e5 : wx.cell? ⟨W.heap.size, 5, none⟩ = some (.slice ia il ic) := HBX.out.cell rfl; have e6 : wx.cell? ⟨W.heap.size, 6, none⟩ = some (.int .i64 wri) := HBX.out.cell rfl; have e7 : wx.cell? ⟨W.heap.size, 7, none⟩ = some (.slice ra rl rc) := HBX.out.cell rfl; have e8 : wx.cell? ⟨W.heap.size, 8, none⟩ = some (.int .i64 at_) := HBX.out.cell rfl; have e9 : wx.cell? ⟨W.heap.size, 9, none⟩ = some (.int .i64 op) := HBX.out.cell rfl; have e10 : wx.cell? ⟨W.heap.size, 10, none⟩ = some (.int .i64 rd_) := HBX.out.cell rfl; have e11 : wx.cell? ⟨W.heap.size, 11, none⟩ = some (.slice qa ql qc) := HBX.out.cell rfl; have e12 : wx.cell? ⟨W.heap.size, 12, none⟩ = some (.slice la ll lc) := HBX.out.cell rfl; have e13 : wx.cell? ⟨W.heap.size, 13, none⟩ = some (.slice pa pl pc) := HBX.out.cell rfl) | (go_at_call 24; refine (chen.awake_any _ (HTA.out.keep HCC.out)).mono ?_; rintro e wz ⟨rfl, hcz⟩; have HZ := Lib.hid hcz; clear hcz))
  go_ret
  exact ⟨rfl, (HCA.out.trans (HCC.out.trans HZ.out)).below⟩

set_option maxHeartbeats 8000000 in
theorem none_ (k w s c st : Int) (ia : Option Addr) (il ic : Nat) (wri : Int) (ra : Option Addr) (rl rc : Nat) (at_ op rd_ : Int) (qa : Option Addr) (ql qc : Nat) (la : Option Addr) (ll lc : Nat) (pa : Option Addr) (pl pc : Nat) (at2 : Int) (rec : List Int) (sz : Int) (hl : lightB il rl ql ll pl = true) (hsz : ∀ V, Calls Tryd.prog 26 #[.agg #[.int .i64 k, .int .i64 w, .int .i64 s, .int .i64 c, .int .u32 st, .slice ia il ic, .int .i64 wri, .slice ra rl rc]] V fun e W' => e = .returned (.int .i64 sz) ∧ Chg [] V W')
    (hb : begI w rl sz at_ op rd_ 2 1 rec.length ≠ 0) (W : World) (hT : bitm.Tab W) (hrec : ReadsW W (.slice qa ql qc) rec) (hrl : rec.length ≤ 1000) :
    Calls Tryd.prog 12 #[.agg #[.int .i64 k, .int .i64 w, .int .i64 s, .int .i64 c, .int .u32 st, .slice ia il ic, .int .i64 wri, .slice ra rl rc, .int .i64 at_, .int .i64 op, .int .i64 rd_, .slice qa ql qc, .slice la ll lc, .slice pa pl pc], .int .i64 at2] W fun e W' => e = .returned (.bool true) ∧ Below W.heap.size W W' := by
  obtain ⟨E, hE⟩ : ∃ E, begI w rl sz at_ op rd_ 2 1 rec.length = E := ⟨_, rfl⟩
  have HBG : Hid (∀ V (hv : ReadsW V (.slice qa ql qc) rec), Calls Tryd.prog 38 #[.agg #[.int .i64 k, .int .i64 w, .int .i64 s, .int .i64 c, .int .u32 st, .slice ia il ic, .int .i64 wri, .slice ra rl rc], .int .i64 at_, .int .i64 op, .int .i64 rd_, .slice qa ql qc] V fun e W' => e = .returned (.tuple #[.pointer none, .int .i64 E]) ∧ Chg [] V W') :=
    Lib.hid (fun V hv => by rw [← hE]; exact chen.Begin_no k w s c st ia il ic wri ra rl rc at_ op rd_ sz _ rec V hv hrl hsz hb)
  rw [hE] at hb
  have hb1 : (E == 0) = false := by simpa using hb
  have hb2 : (E != 0) = true := by simpa using hb
  have HL := Lib.hid hl
  have HREC := Lib.hid hrec
  clear hl hsz hb hE hrec hrl
  have HBX : Hid (Blk (W.alloc (.cells #[.int .i64 k, .int .i64 w, .int .i64 s, .int .i64 c, .int .u32 st, .slice ia il ic, .int .i64 wri, .slice ra rl rc, .int .i64 at_, .int .i64 op, .int .i64 rd_, .slice qa ql qc, .slice la ll lc, .slice pa pl pc] 36)) W.heap.size #[.int .i64 k, .int .i64 w, .int .i64 s, .int .i64 c, .int .u32 st, .slice ia il ic, .int .i64 wri, .slice ra rl rc, .int .i64 at_, .int .i64 op, .int .i64 rd_, .slice qa ql qc, .slice la ll lc, .slice pa pl pc] 36) := Lib.hid (Blk.new W _ _)
  have HCA : Hid (Chg [] W (W.alloc (.cells #[.int .i64 k, .int .i64 w, .int .i64 s, .int .i64 c, .int .u32 st, .slice ia il ic, .int .i64 wri, .slice ra rl rc, .int .i64 at_, .int .i64 op, .int .i64 rd_, .slice qa ql qc, .slice la ll lc, .slice pa pl pc] 36))) := Lib.hid ((Chg.refl _ _).alloc _)
  have HTA : Hid (bitm.Tab (W.alloc (.cells #[.int .i64 k, .int .i64 w, .int .i64 s, .int .i64 c, .int .u32 st, .slice ia il ic, .int .i64 wri, .slice ra rl rc, .int .i64 at_, .int .i64 op, .int .i64 rd_, .slice qa ql qc, .slice la ll lc, .slice pa pl pc] 36))) := Lib.hid (hT.keep HCA.out)
  clear hT
  have HCC : Hid (Chg [] (W.alloc (.cells #[.int .i64 k, .int .i64 w, .int .i64 s, .int .i64 c, .int .u32 st, .slice ia il ic, .int .i64 wri, .slice ra rl rc, .int .i64 at_, .int .i64 op, .int .i64 rd_, .slice qa ql qc, .slice la ll lc, .slice pa pl pc] 36)) (W.alloc (.cells #[.int .i64 k, .int .i64 w, .int .i64 s, .int .i64 c, .int .u32 st, .slice ia il ic, .int .i64 wri, .slice ra rl rc, .int .i64 at_, .int .i64 op, .int .i64 rd_, .slice qa ql qc, .slice la ll lc, .slice pa pl pc] 36))) := Lib.hid (Chg.refl _ _)
  go_enter Tryd.func12, Tryd.ntmps12
  go_wp2_with (first | (go_at_call 29; refine (Light_any k w s c st ia il ic wri ra rl rc at_ op rd_ qa ql qc la ll lc pa pl pc _).mono ?_; rintro e wx ⟨rfl, hcx⟩; rw [HL.out]; have HCC := Lib.hid (HCC.out.trans hcx); have HBX := Lib.hid (HBX.out.keep hcx (by simp)); clear hcx; have e0 : wx.cell? ⟨W.heap.size, 0, none⟩ = some (.int .i64 k) := HBX.out.cell rfl; have e1 : wx.cell? ⟨W.heap.size, 1, none⟩ = some (.int .i64 w) := HBX.out.cell rfl; have e2 : wx.cell? ⟨W.heap.size, 2, none⟩ = some (.int .i64 s) := HBX.out.cell rfl; have e3 : wx.cell? ⟨W.heap.size, 3, none⟩ = some (.int .i64 c) := HBX.out.cell rfl; have e4 : wx.cell? ⟨W.heap.size, 4, none⟩ = some (.int .u32 st) := HBX.out.cell rfl; have e5 : wx.cell? ⟨W.heap.size, 5, none⟩ = some (.slice ia il ic) := HBX.out.cell rfl; have e6 : wx.cell? ⟨W.heap.size, 6, none⟩ = some (.int .i64 wri) := HBX.out.cell rfl; have e7 : wx.cell? ⟨W.heap.size, 7, none⟩ = some (.slice ra rl rc) := HBX.out.cell rfl; have e8 : wx.cell? ⟨W.heap.size, 8, none⟩ = some (.int .i64 at_) := HBX.out.cell rfl; have e9 : wx.cell? ⟨W.heap.size, 9, none⟩ = some (.int .i64 op) := HBX.out.cell rfl; have e10 : wx.cell? ⟨W.heap.size, 10, none⟩ = some (.int .i64 rd_) := HBX.out.cell rfl; have e11 : wx.cell? ⟨W.heap.size, 11, none⟩ = some (.slice qa ql qc) := HBX.out.cell rfl; have e12 : wx.cell? ⟨W.heap.size, 12, none⟩ = some (.slice la ll lc) := HBX.out.cell rfl; have e13 : wx.cell? ⟨W.heap.size, 13, none⟩ = some (.slice pa pl pc) := HBX.out.cell rfl) | (go_at_call 24; refine (chen.awake_any _ (HTA.out.keep HCC.out)).mono ?_; rintro e wz ⟨rfl, hcz⟩; have HZ := Lib.hid hcz; clear hcz) | (go_at_call 38; refine (HBG.out _ (HREC.out.chg (HCA.out.trans HCC.out))).mono ?_; rintro e wb ⟨rfl, hcx⟩; have HCC := Lib.hid (HCC.out.trans hcx); have HBX := Lib.hid (HBX.out.keep hcx (by simp)); clear hcx e0 e1 e2 e3 e4 e5 e6 e7 e8 e9 e10 e11 e12 e13; have e0 : wb.cell? ⟨W.heap.size, 0, none⟩ = some (.int .i64 k) := HBX.out.cell rfl; have e1 : wb.cell? ⟨W.heap.size, 1, none⟩ = some (.int .i64 w) := HBX.out.cell rfl; have e2 : wb.cell? ⟨W.heap.size, 2, none⟩ = some (.int .i64 s) := HBX.out.cell rfl; have e3 : wb.cell? ⟨W.heap.size, 3, none⟩ = some (.int .i64 c) := HBX.out.cell rfl; have e4 : wb.cell? ⟨W.heap.size, 4, none⟩ = some (.int .u32 st) := HBX.out.cell rfl; have e5 : wb.cell? ⟨W.heap.size, 5, none⟩ = some (.slice ia il ic) := HBX.out.cell rfl; have e6 : wb.cell? ⟨W.heap.size, 6, none⟩ = some (.int .i64 wri) := HBX.out.cell rfl; have e7 : wb.cell? ⟨W.heap.size, 7, none⟩ = some (.slice ra rl rc) := HBX.out.cell rfl; have e8 : wb.cell? ⟨W.heap.size, 8, none⟩ = some (.int .i64 at_) := HBX.out.cell rfl; have e9 : wb.cell? ⟨W.heap.size, 9, none⟩ = some (.int .i64 op) := HBX.out.cell rfl; have e10 : wb.cell? ⟨W.heap.size, 10, none⟩ = some (.int .i64 rd_) := HBX.out.cell rfl; have e11 : wb.cell? ⟨W.heap.size, 11, none⟩ = some (.slice qa ql qc) := HBX.out.cell rfl; have e12 : wb.cell? ⟨W.heap.size, 12, none⟩ = some (.slice la ll lc) := HBX.out.cell rfl; have e13 : wb.cell? ⟨W.heap.size, 13, none⟩ = some (.slice pa pl pc) := HBX.out.cell rfl))
  go_ret
  exact ⟨rfl, (HCA.out.trans (HCC.out.trans HZ.out)).below⟩

/-- what is known of an operation that was begun -/
structure Given (k w s c st : Int) (ia : Option Addr) (il ic : Nat) (wri : Int) (ra : Option Addr) (rl rc : Nat) (at_ op rd_ : Int) (qa : Option Addr) (ql qc : Nat) (la : Option Addr) (ll lc : Nat) (pa : Option Addr) (pl pc : Nat) (N wN : Nat) (rec l : List Int) (ps : List Poke) (W : World) : Prop where
  light : lightB il rl ql ll pl = true
  obj : ObjW k w s c st il rl
  right : (decide (k = 2) && rightB k w s c st il rl) = true
  hwN : w = (wN : Int)
  hN : N = 1 + rl + (((rl : Int) + 2) * w).toNat
  beg : begI w rl (N : Int) at_ op rd_ 2 1 rec.length = 0
  hrec : ReadsW W (.slice qa ql qc) rec
  hl : ReadsW W (.slice la ll lc) l
  hps : ReadsP W (.slice pa pl pc) ps
  at64 : -9223372036854775808 ≤ at_ ∧ at_ ≤ 9223372036854775807
theorem Given.spec {k w s c st : Int} {ia : Option Addr} {il ic : Nat} {wri : Int} {ra : Option Addr} {rl rc : Nat} {at_ op rd_ : Int} {qa : Option Addr} {ql qc : Nat} {la : Option Addr} {ll lc : Nat} {pa : Option Addr} {pl pc : Nat} {N wN : Nat} {rec l : List Int} {ps : List Poke} {W : World} (h : Given k w s c st ia il ic wri ra rl rc at_ op rd_ qa ql qc la ll lc pa pl pc N wN rec l ps W) :
    rec.length ≤ 1000 ∧ ll = l.length ∧ l.length ≤ 400 ∧ pl ≤ 100 ∧ 0 ≤ at_ ∧ 1 ≤ wN ∧ wN ≤ 8 ∧ (op = 2 ∧ rec.length = wN ∨ op = 1 ∧ rec.length = 0) := by
  have hl := h.light
  simp only [lightB, Bool.and_eq_true, decide_eq_true_eq] at hl
  have hr := h.right
  simp only [Bool.and_eq_true] at hr
  have hbd := rightB_bd hr.2
  have hw := h.hwN
  have e1 : ll = l.length := by obtain ⟨_, _, he, _⟩ := reads_slice h.hl.1; simp at he; exact he.2.1
  have e2 : ql = rec.length := by obtain ⟨_, _, he, _⟩ := reads_slice h.hrec.1; simp at he; exact he.2.1
  have hb := h.beg
  unfold begI at hb
  split at hb
  · omega
  · split at hb
    · split at hb
      · omega
      · split at hb <;> omega
    · split at hb
      · split at hb
        · omega
        · split at hb <;> omega
      · omega


theorem own_ge {W : World} {B : Nat} {v : Value} {l : List Int} (h : OwnW W B v l) : ∀ y, v.ownBlock = some y → B ≤ y := by
  intro y hy
  rcases h.2 with ⟨rfl, _⟩ | ⟨g, _, _, rfl, hg, _⟩
  · cases hy
  · simp [Value.ownBlock] at hy; omega
theorem opens_over {x : Core} {l : Nat} (h : core.opens x l = true) : x.over = false := by
  simp only [core.opens, Bool.and_eq_true, Bool.not_eq_true'] at h
  exact h.1
/-- what a run changes is new, if all of it is -/
theorem run_new {K : Kind} {T : TypeId} {bx mb : Nat} {sv r0 : Value} {W0 wr B : World} {q0 : Q} {n0 : Int} {t : Nat} (h : K.Nx T bx mb sv W0 r0 q0 n0 wr t) (hc : Chg [] B W0) (h1 : B.heap.size ≤ bx) (h2 : B.heap.size ≤ mb) (h3 : ∀ y, sv.ownBlock = some y → B.heap.size ≤ y) (h4 : ∀ y, r0.ownBlock = some y → B.heap.size ≤ y) :
    Chg [] B wr := by
  obtain ⟨n, ⟨v, hp, he⟩, _⟩ := h.st
  refine hc.into he.chg fun y hy => ?_
  simp only [List.mem_cons, List.mem_append, Option.mem_toList, Option.mem_def] at hy
  right
  rcases hy with rfl | rfl | hy | hy
  · exact h1
  · exact h2
  · exact h3 y hy
  · exact h4 y hy
/-- a run leaves what was made behind its beginning -/
theorem run_keeps {K : Kind} {T : TypeId} {bx mb : Nat} {sv r0 : Value} {W0 wr : World} {q0 : Q} {n0 : Int} {t : Nat} (h : K.Nx T bx mb sv W0 r0 q0 n0 wr t) {by_ kb : Nat} {ksv u : Value} {y : Core} {rec ws : List Int} {n : Int} (hp : Pair T by_ kb ksv W0 y u rec ws n)
    (hd : ∀ z, z = by_ ∨ z = kb ∨ ksv.ownBlock = some z ∨ u.ownBlock = some z → z ≠ bx ∧ z ≠ mb ∧ sv.ownBlock ≠ some z ∧ r0.ownBlock ≠ some z) : Pair T by_ kb ksv wr y u rec ws n := by
  obtain ⟨n', ⟨v, hp', he⟩, _⟩ := h.st
  have hno : ∀ z, (z = by_ ∨ z = kb ∨ ksv.ownBlock = some z ∨ u.ownBlock = some z) → z ∉ (bx :: mb :: (sv.ownBlock.toList ++ r0.ownBlock.toList)) := by
    intro z hz
    have := hd z hz
    simp only [List.mem_cons, List.mem_append, Option.mem_toList, Option.mem_def]
    rintro (h1 | h1 | h1 | h1)
    · exact this.1 h1
    · exact this.2.1 h1
    · exact this.2.2.1 h1
    · exact this.2.2.2 h1
  exact ⟨hp.box.keep he.chg (hno _ (.inl rfl)), mem.own_chg hp.row he.chg (fun z hz => hno z (.inr (.inr (.inr hz)))), hp.wf, hp.short, hp.mem.keep he.chg (hno _ (.inr (.inl rfl))) (fun z hz => hno z (.inr (.inr (.inl hz)))), hp.ne, hp.ns, hp.nv⟩

set_option maxHeartbeats 16000000 in
theorem run (k w s c st : Int) (ia : Option Addr) (il ic : Nat) (wri : Int) (ra : Option Addr) (rl rc : Nat) (at_ op rd_ : Int) (qa : Option Addr) (ql qc : Nat) (la : Option Addr) (ll lc : Nat) (pa : Option Addr) (pl pc : Nat) (at2 : Int) (hat2 : -9223372036854775808 ≤ at2 ∧ at2 ≤ 9223372036854775807) (N wN : Nat) (rec l : List Int) (ps : List Poke) (W : World) (hT : bitm.Tab W) (h : Given k w s c st ia il ic wri ra rl rc at_ op rd_ qa ql qc la ll lc pa pl pc N wN rec l ps W) :
    Calls Tryd.prog 12 #[.agg #[.int .i64 k, .int .i64 w, .int .i64 s, .int .i64 c, .int .u32 st, .slice ia il ic, .int .i64 wri, .slice ra rl rc, .int .i64 at_, .int .i64 op, .int .i64 rd_, .slice qa ql qc, .slice la ll lc, .slice pa pl pc], .int .i64 at2] W fun e W' => e = .returned (.bool true) ∧ Below W.heap.size W W' := by
  have hsp := h.spec
  have HSP := Lib.hid hsp
  have HSH : Hid (chen.K.Shape ({ k := k, w := w, s := s, c := c, st := st, ia := ia, il := il, ic := ic, wr := wri, ra := ra, rl := rl, rc := rc, op := op, reader := rd_, phase := 0, i := 0, tries := 0, a := 0, b := 0, used := 0, m := .pointer none, base := at_, size := (N : Int), code := 0, steps := 0, over := false } : Core) rec) := Lib.hid (by
    have hw := h.hwN
    have hN := h.hN
    have hrlb : 1 ≤ rl ∧ rl ≤ 4 := by
      have hr := h.right
      simp only [Bool.and_eq_true, decide_eq_true_eq, rightB] at hr
      omega
    have hrd : 0 ≤ rd_ ∧ rd_ < (rl : Int) := by
      have hb := h.beg
      unfold begI at hb
      split at hb
      · omega
      · split at hb
        · split at hb
          · omega
          · omega
        · split at hb
          · split at hb
            · omega
            · omega
          · omega
    have hnn := Int.mul_nonneg (show 0 ≤ (rl : Int) + 2 by omega) (show 0 ≤ w by omega)
    have hnw : (N : Int) = 1 + rl + ((rl : Int) + 2) * w := by rw [hN]; omega
    rcases hsp.2.2.2.2.2.2.2 with ⟨ho, hr⟩ | ⟨ho, hr⟩
    · subst ho
      exact ⟨by simp only []; omega, by simp only []; omega, by simp only []; omega, by simp only []; omega, hrd, hsp.2.2.2.2.1, hnw, fun _ _ _ => bitm.Marks.zero, fun _ => by simp only []; exact ⟨by omega, by simp; omega⟩, .inl ⟨rfl, by simp, fun _ => by simp only []; omega⟩⟩
    · subst ho
      exact ⟨by simp only []; omega, by simp only []; omega, by simp only []; omega, by simp only []; omega, hrd, hsp.2.2.2.2.1, hnw, fun _ h9 => by simp at h9, fun _ => by simp only []; exact ⟨by omega, by simp; omega⟩, .inr ⟨rfl, by simp, fun _ => by simp [hr]⟩⟩)
  have HL := Lib.hid h.light
  have HREC := Lib.hid h.hrec
  have HRL : Hid (rec.length ≤ 1000) := Lib.hid hsp.1
  have HLR := Lib.hid h.hl
  have HSZ : Hid (∀ V, Calls Tryd.prog 26 #[.agg #[.int .i64 k, .int .i64 w, .int .i64 s, .int .i64 c, .int .u32 st, .slice ia il ic, .int .i64 wri, .slice ra rl rc]] V fun e W' => e = .returned (.int .i64 (N : Int)) ∧ Chg [] V W') := Lib.hid (fun V => by rw [h.hN]; exact chen.Size_yes k w s c st ia il ic wri ra rl rc wN h.hwN h.obj h.right V)
  have HBG := Lib.hid h.beg
  clear h hsp hat2
  have HBX : Hid (Blk (W.alloc (.cells #[.int .i64 k, .int .i64 w, .int .i64 s, .int .i64 c, .int .u32 st, .slice ia il ic, .int .i64 wri, .slice ra rl rc, .int .i64 at_, .int .i64 op, .int .i64 rd_, .slice qa ql qc, .slice la ll lc, .slice pa pl pc] 36)) W.heap.size #[.int .i64 k, .int .i64 w, .int .i64 s, .int .i64 c, .int .u32 st, .slice ia il ic, .int .i64 wri, .slice ra rl rc, .int .i64 at_, .int .i64 op, .int .i64 rd_, .slice qa ql qc, .slice la ll lc, .slice pa pl pc] 36) := Lib.hid (Blk.new W _ _)
  have HCA : Hid (Chg [] W (W.alloc (.cells #[.int .i64 k, .int .i64 w, .int .i64 s, .int .i64 c, .int .u32 st, .slice ia il ic, .int .i64 wri, .slice ra rl rc, .int .i64 at_, .int .i64 op, .int .i64 rd_, .slice qa ql qc, .slice la ll lc, .slice pa pl pc] 36))) := Lib.hid ((Chg.refl _ _).alloc _)
  have HTA : Hid (bitm.Tab (W.alloc (.cells #[.int .i64 k, .int .i64 w, .int .i64 s, .int .i64 c, .int .u32 st, .slice ia il ic, .int .i64 wri, .slice ra rl rc, .int .i64 at_, .int .i64 op, .int .i64 rd_, .slice qa ql qc, .slice la ll lc, .slice pa pl pc] 36))) := Lib.hid (hT.keep HCA.out)
  clear hT
  have HCC : Hid (Chg [] (W.alloc (.cells #[.int .i64 k, .int .i64 w, .int .i64 s, .int .i64 c, .int .u32 st, .slice ia il ic, .int .i64 wri, .slice ra rl rc, .int .i64 at_, .int .i64 op, .int .i64 rd_, .slice qa ql qc, .slice la ll lc, .slice pa pl pc] 36)) (W.alloc (.cells #[.int .i64 k, .int .i64 w, .int .i64 s, .int .i64 c, .int .u32 st, .slice ia il ic, .int .i64 wri, .slice ra rl rc, .int .i64 at_, .int .i64 op, .int .i64 rd_, .slice qa ql qc, .slice la ll lc, .slice pa pl pc] 36))) := Lib.hid (Chg.refl _ _)
  go_enter Tryd.func12, Tryd.ntmps12
  go_upto_block 0 with (first | (go_at_call 29; refine (Light_any k w s c st ia il ic wri ra rl rc at_ op rd_ qa ql qc la ll lc pa pl pc _).mono ?_; rintro e wx ⟨rfl, hcx⟩; rw [HL.out]; have HCC := Lib.hid (HCC.out.trans hcx); have HBX := Lib.hid (HBX.out.keep hcx (by simp)); clear hcx; have e0 : wx.cell? ⟨W.heap.size, 0, none⟩ = some (.int .i64 k) := HBX.out.cell rfl; have e1 : wx.cell? ⟨W.heap.size, 1, none⟩ = some (.int .i64 w) := HBX.out.cell rfl; have e2 : wx.cell? ⟨W.heap.size, 2, none⟩ = some (.int .i64 s) := HBX.out.cell rfl; have e3 : wx.cell? ⟨W.heap.size, 3, none⟩ = some (.int .i64 c) := HBX.out.cell rfl; have e4 : wx.cell? ⟨W.heap.size, 4, none⟩ = some (.int .u32 st) := HBX.out.cell rfl; have e5 : wx.cell? ⟨W.heap.size, 5, none⟩ = some (.slice ia il ic) := HBX.out.cell rfl; have e6 : wx.cell? ⟨W.heap.size, 6, none⟩ = some (.int .i64 wri) := HBX.out.cell rfl; have e7 : wx.cell? ⟨W.heap.size, 7, none⟩ = some (.slice ra rl rc) := HBX.out.cell rfl; have e8 : wx.cell? ⟨W.heap.size, 8, none⟩ = some (.int .i64 at_) := HBX.out.cell rfl; have e9 : wx.cell? ⟨W.heap.size, 9, none⟩ = some (.int .i64 op) := HBX.out.cell rfl; have e10 : wx.cell? ⟨W.heap.size, 10, none⟩ = some (.int .i64 rd_) := HBX.out.cell rfl; have e11 : wx.cell? ⟨W.heap.size, 11, none⟩ = some (.slice qa ql qc) := HBX.out.cell rfl; have e12 : wx.cell? ⟨W.heap.size, 12, none⟩ = some (.slice la ll lc) := HBX.out.cell rfl; have e13 : wx.cell? ⟨W.heap.size, 13, none⟩ = some (.slice pa pl pc) := HBX.out.cell rfl) | (go_at_call 38; refine (chen.Begin_yes k w s c st ia il ic wri ra rl rc at_ op rd_ (N : Int) _ rec _ (HREC.out.chg (HCA.out.trans HCC.out)) HRL.out HSZ.out HBG.out).mono ?_; rintro e wb ⟨bx, v, rfl, hb, ho, hv, hxb, hcx⟩; have HB0 : Hid (Blk wb bx (({ k := k, w := w, s := s, c := c, st := st, ia := ia, il := il, ic := ic, wr := wri, ra := ra, rl := rl, rc := rc, op := op, reader := rd_, phase := 0, i := 0, tries := 0, a := 0, b := 0, used := 0, m := .pointer none, base := at_, size := (N : Int), code := 0, steps := 0, over := false } : Core).cells v) 83) := Lib.hid hb; have HO0 : Hid (OwnW wb (W.alloc (.cells #[.int .i64 k, .int .i64 w, .int .i64 s, .int .i64 c, .int .u32 st, .slice ia il ic, .int .i64 wri, .slice ra rl rc, .int .i64 at_, .int .i64 op, .int .i64 rd_, .slice qa ql qc, .slice la ll lc, .slice pa pl pc] 36)).heap.size v rec) := Lib.hid (own_base ho HCC.out.size); have HV0 := Lib.hid hv; have HX0 : Hid ((W.alloc (.cells #[.int .i64 k, .int .i64 w, .int .i64 s, .int .i64 c, .int .u32 st, .slice ia il ic, .int .i64 wri, .slice ra rl rc, .int .i64 at_, .int .i64 op, .int .i64 rd_, .slice qa ql qc, .slice la ll lc, .slice pa pl pc] 36)).heap.size ≤ bx) := Lib.hid (Nat.le_trans HCC.out.size hxb); have HCC := Lib.hid (HCC.out.trans hcx); have HBX := Lib.hid (HBX.out.keep hcx (by simp)); clear hcx hb ho hv hxb e0 e1 e2 e3 e4 e5 e6 e7 e8 e9 e10 e11 e12 e13; have e0 : wb.cell? ⟨W.heap.size, 0, none⟩ = some (.int .i64 k) := HBX.out.cell rfl; have e1 : wb.cell? ⟨W.heap.size, 1, none⟩ = some (.int .i64 w) := HBX.out.cell rfl; have e2 : wb.cell? ⟨W.heap.size, 2, none⟩ = some (.int .i64 s) := HBX.out.cell rfl; have e3 : wb.cell? ⟨W.heap.size, 3, none⟩ = some (.int .i64 c) := HBX.out.cell rfl; have e4 : wb.cell? ⟨W.heap.size, 4, none⟩ = some (.int .u32 st) := HBX.out.cell rfl; have e5 : wb.cell? ⟨W.heap.size, 5, none⟩ = some (.slice ia il ic) := HBX.out.cell rfl; have e6 : wb.cell? ⟨W.heap.size, 6, none⟩ = some (.int .i64 wri) := HBX.out.cell rfl; have e7 : wb.cell? ⟨W.heap.size, 7, none⟩ = some (.slice ra rl rc) := HBX.out.cell rfl; have e8 : wb.cell? ⟨W.heap.size, 8, none⟩ = some (.int .i64 at_) := HBX.out.cell rfl; have e9 : wb.cell? ⟨W.heap.size, 9, none⟩ = some (.int .i64 op) := HBX.out.cell rfl; have e10 : wb.cell? ⟨W.heap.size, 10, none⟩ = some (.int .i64 rd_) := HBX.out.cell rfl; have e11 : wb.cell? ⟨W.heap.size, 11, none⟩ = some (.slice qa ql qc) := HBX.out.cell rfl; have e12 : wb.cell? ⟨W.heap.size, 12, none⟩ = some (.slice la ll lc) := HBX.out.cell rfl; have e13 : wb.cell? ⟨W.heap.size, 13, none⟩ = some (.slice pa pl pc) := HBX.out.cell rfl) | (go_at_call 32; refine (Memory_ok _ l _ (HLR.out.chg (HCA.out.trans HCC.out)) (by have := HSP.out; omega)).mono ?_; rintro e w4 ⟨mb, sv, rfl, hm4, hc4, hb4, hs4⟩; have HP : Hid (Pair 83 bx mb sv w4 ({ k := k, w := w, s := s, c := c, st := st, ia := ia, il := il, ic := ic, wr := wri, ra := ra, rl := rl, rc := rc, op := op, reader := rd_, phase := 0, i := 0, tries := 0, a := 0, b := 0, used := 0, m := .pointer none, base := at_, size := (N : Int), code := 0, steps := 0, over := false } : Core) v rec l 0) := Lib.hid (Pair.make HB0.out HO0.out HV0.out HREC.out.2 HRL.out hc4 hm4 hb4 hs4); have HF4 : Hid ((W.alloc (.cells #[.int .i64 k, .int .i64 w, .int .i64 s, .int .i64 c, .int .u32 st, .slice ia il ic, .int .i64 wri, .slice ra rl rc, .int .i64 at_, .int .i64 op, .int .i64 rd_, .slice qa ql qc, .slice la ll lc, .slice pa pl pc] 36)).heap.size ≤ mb ∧ ∀ y, sv.ownBlock = some y → (W.alloc (.cells #[.int .i64 k, .int .i64 w, .int .i64 s, .int .i64 c, .int .u32 st, .slice ia il ic, .int .i64 wri, .slice ra rl rc, .int .i64 at_, .int .i64 op, .int .i64 rd_, .slice qa ql qc, .slice la ll lc, .slice pa pl pc] 36)).heap.size ≤ y) := Lib.hid ⟨Nat.le_trans HCC.out.size hb4, fun y hy => Nat.le_trans HCC.out.size (hs4 y hy)⟩; have HV4 : Hid (∀ y, v.ownBlock = some y → (W.alloc (.cells #[.int .i64 k, .int .i64 w, .int .i64 s, .int .i64 c, .int .u32 st, .slice ia il ic, .int .i64 wri, .slice ra rl rc, .int .i64 at_, .int .i64 op, .int .i64 rd_, .slice qa ql qc, .slice la ll lc, .slice pa pl pc] 36)).heap.size ≤ y) := Lib.hid (own_ge HO0.out); have HCC := Lib.hid (HCC.out.trans hc4); clear hm4 hc4 hb4 hs4))
  obtain ⟨q0, hq0⟩ : ∃ q0 : Q, (({ k := k, w := w, s := s, c := c, st := st, ia := ia, il := il, ic := ic, wr := wri, ra := ra, rl := rl, rc := rc, op := op, reader := rd_, phase := 0, i := 0, tries := 0, a := 0, b := 0, used := 0, m := .pointer none, base := at_, size := (N : Int), code := 0, steps := 0, over := false } : Core), rec, l) = q0 := ⟨_, rfl⟩
  have HN0 : Hid (chen.K.Nx 83 bx mb sv w4 v q0 0 w4 0) := Lib.hid (by rw [← hq0]; exact Kind.Nx.start (St.start HP.out) HSH.out rfl)
  have HQ0 : Hid (q0.1.steps = 0) := Lib.hid (by rw [← hq0])
  clear hq0 HP HB0 HO0 HBX e0 e1 e2 e3 e4 e5 e6 e7 e8 e9 e10 e11 e12 e13
  go_cut [8] from 50 to 61 (fun _ wc => ∃ t : Nat, t ≤ 130 ∧ Hid (chen.K.Nx 83 bx mb sv w4 v q0 0 wc t))
  case first =>
    go_wp2_with fail
    go_loopw [8] (fun i wr => ∃ t : Nat, t ≤ 130 ∧ i = .int .i64 t ∧ Hid (chen.K.Nx 83 bx mb sv w4 v q0 0 wr t)) (fun i _ => 130 - (intOf i).toNat)
    case atStart => exact ⟨0, by omega, rfl, HN0⟩
    case round =>
      obtain ⟨t, ht, rfl, HN⟩ := hrel
      have k9 : IntKind.i64.wrap ((t : Int) + 1) = (t : Int) + 1 := by rw [IntKind.wrap_i64]; omega
      by_cases c1 : (t : Int) < at2
      · by_cases c2 : t < 130
        · have c2I : (t : Int) < 130 := by omega
          cases ho : core.opens (chen.K.iter (.pointer (some ⟨mb, 0, none⟩)) t q0).1 (chen.K.iter (.pointer (some ⟨mb, 0, none⟩)) t q0).2.2.length
          · have HO := Lib.hid ho
            clear ho ht
            go_wp2_with (go_at_call 39; obtain ⟨nn, hstn, hnn⟩ := HN.out.st; refine (chen.Step_no HO.out hstn).mono ?_; rintro e w5 ⟨rfl, hcn⟩; have HX := Lib.hid (HN.out.idle HO.out hcn); clear hcn hstn hnn)
            go_roundw
            case rel => exact ⟨t + 1, by omega, by go_num, HX⟩
            case measure => simp [intOf]; omega
          · have HO := Lib.hid ho
            have HT2 := Lib.hid c2
            clear ho ht
            go_wp2_with (go_at_call 39; obtain ⟨nn, hstn, hnn⟩ := HN.out.st; refine (chen.Step_yes (tabs HTA.out HCC.out HX0.out HF4.out.1 HF4.out.2 HV4.out) HN.out.shape (by have h1 := HN.out.steps; have h2 := HQ0.out; have h3 := HT2.out; omega) HO.out (by have h3 := HT2.out; omega) hstn).mono ?_; rintro e w5 ⟨rfl, hcn⟩; have HX := Lib.hid (HN.out.made HO.out (opens_over HO.out) hnn hcn); clear hcn hstn hnn)
            have c3 := HT2.out
            go_roundw
            case rel => exact ⟨t + 1, by omega, by go_num, HX⟩
            case measure => simp [intOf]; omega
        · have c2I : ¬ (t : Int) < 130 := by omega
          go_wp2_with fail
          go_meet
          case rel => exact ⟨t, ht, HN⟩
      · go_wp2_with fail
        go_meet
        case rel => exact ⟨t, ht, HN⟩
  case rest =>
  obtain ⟨t1, ht1, HN1⟩ := hcut
  rename World => wone
  obtain ⟨q1, hq1⟩ : ∃ q1 : Q, (chen.K.iter (.pointer (some ⟨mb, 0, none⟩)) t1 q0) = q1 := ⟨_, rfl⟩
  have HW1 : Hid (Chg [] (W.alloc (.cells #[.int .i64 k, .int .i64 w, .int .i64 s, .int .i64 c, .int .u32 st, .slice ia il ic, .int .i64 wri, .slice ra rl rc, .int .i64 at_, .int .i64 op, .int .i64 rd_, .slice qa ql qc, .slice la ll lc, .slice pa pl pc] 36)) wone) := Lib.hid (run_new HN1.out HCC.out HX0.out HF4.out.1 HF4.out.2 HV4.out)
  have HS1 : Hid (chen.K.Shape q1.1 q1.2.1 ∧ 0 ≤ q1.1.steps ∧ q1.1.steps ≤ 130 ∧ q1.1.m.oneCell' = true) := Lib.hid (by
    have h1 := HN1.out.shape
    have h2 := HN1.out.steps
    have h3 := HN1.out.one
    rw [hq1] at h1 h2 h3
    have := HQ0.out
    exact ⟨h1, by omega, by omega, h3⟩)
  obtain ⟨n1, hst1, hn1⟩ := HN1.out.st
  rw [hq1] at hst1
  obtain ⟨v1, hp1, he1⟩ := hst1
  have HP1 := Lib.hid hp1
  have HV1 : Hid (∀ y, v1.ownBlock = some y → (W.alloc (.cells #[.int .i64 k, .int .i64 w, .int .i64 s, .int .i64 c, .int .u32 st, .slice ia il ic, .int .i64 wri, .slice ra rl rc, .int .i64 at_, .int .i64 op, .int .i64 rd_, .slice qa ql qc, .slice la ll lc, .slice pa pl pc] 36)).heap.size ≤ y) := Lib.hid (fun y hy => by
    rcases he1.own y hy with h1 | h1
    · exact HV4.out y h1
    · exact Nat.le_trans HCC.out.size h1)
  have HN1I : Hid (0 ≤ n1 ∧ n1 ≤ 130) := Lib.hid (by omega)
  have HQ1 := Lib.hid hq1
  clear hp1 he1 hq1 hn1 HN0 HN1 HCC
  have HCC := HW1
  go_upto_block 2 with (first
    | (go_at_call 49; refine (chen.Clone_any HS1.out.2.2.2 HP1.out).mono ?_; rintro e w5 ⟨yb, yv, rfl, hyb, hyo, hyv, hyx, hc5⟩; have HYB : Hid (Blk w5 yb (q1.1.cells yv) 83) := Lib.hid hyb; have HYO := Lib.hid hyo; have HYV := Lib.hid hyv; have HYX := Lib.hid hyx; have HC5 := Lib.hid hc5; clear hyb hyo hyv hyx hc5)
    | (go_at_call 48; refine (Clone_ok mb sv q1.2.2 n1 _ (HP1.out.mem.fresh HC5.out)).mono ?_; rintro e w6 ⟨kb, ks, rfl, hmk, hc6, hkb, hks⟩; have HY : Hid (Pair 83 yb kb ks w6 q1.1 yv q1.2.1 q1.2.2 n1) := Lib.hid (Pair.make HYB.out HYO.out HYV.out HP1.out.wf HP1.out.short hc6 hmk hkb hks); have HX6 := Lib.hid (HP1.out.keep (HC5.out.trans hc6)); have HK6 : Hid (w5.heap.size ≤ kb ∧ ∀ y, ks.ownBlock = some y → w5.heap.size ≤ y) := Lib.hid ⟨hkb, hks⟩; have HC6 := Lib.hid (HC5.out.trans hc6); clear hmk hc6 hkb hks)
    | (go_at_call 41; first | ((with_reducible show Calls _ _ #[.pointer (some ⟨yb, 0, none⟩)] _ _); refine (chen.Steps_any (St.start HY.out)).mono ?_; rintro e w7 ⟨rfl, rfl⟩) | (refine (chen.Steps_any (St.start HX6.out)).mono ?_; rintro e w7 ⟨rfl, rfl⟩))
    | (go_at_call 40; first | ((with_reducible show Calls _ _ #[.pointer (some ⟨yb, 0, none⟩)] _ _); refine (chen.Over_any (St.start HY.out)).mono ?_; rintro e w7 ⟨rfl, rfl⟩) | (refine (chen.Over_any (St.start HX6.out)).mono ?_; rintro e w7 ⟨rfl, rfl⟩)))
  have HN20 : Hid (chen.K.Nx 83 bx mb sv w6 v1 q1 n1 w6 0) := Lib.hid (Kind.Nx.start (St.start HX6.out) HS1.out.1 HS1.out.2.2.2)
  go_cut [12] from 84 to 92 (fun _ wc => ∃ u : Nat, u ≤ 130 ∧ Hid (chen.K.Nx 83 bx mb sv w6 v1 q1 n1 wc u) ∧ Hid ((chen.K.iter (.pointer (some ⟨mb, 0, none⟩)) 130 q1) = (chen.K.iter (.pointer (some ⟨mb, 0, none⟩)) u q1)))
  case first =>
    go_wp2_with fail
    go_loopw [12] (fun i wr => ∃ t : Nat, t ≤ 130 ∧ i = .int .i64 t ∧ Hid (chen.K.Nx 83 bx mb sv w6 v1 q1 n1 wr t)) (fun i _ => 130 - (intOf i).toNat)
    case atStart => exact ⟨0, by omega, rfl, HN20⟩
    case round =>
      obtain ⟨t, ht, rfl, HN⟩ := hrel
      have k9 : IntKind.i64.wrap ((t : Int) + 1) = (t : Int) + 1 := by rw [IntKind.wrap_i64]; omega
      by_cases c2 : t < 130
      · have c2I : (t : Int) < 130 := by omega
        cases ho : core.opens (chen.K.iter (.pointer (some ⟨mb, 0, none⟩)) t q1).1 (chen.K.iter (.pointer (some ⟨mb, 0, none⟩)) t q1).2.2.length
        · have HO := Lib.hid ho
          have HT := Lib.hid ht
          clear ho ht
          go_wp2_with (go_at_call 39; obtain ⟨nn, hstn, hnn⟩ := HN.out.st; refine (chen.Step_no HO.out hstn).mono ?_; rintro e w5 ⟨rfl, hcn⟩; have HX := Lib.hid (HN.out.keep hcn); clear hcn hstn hnn)
          go_meet
          case rel => exact ⟨t, HT.out, HX, Lib.hid (Kind.iter_stop _ _ _ HO.out 130 HT.out)⟩
        · have HO := Lib.hid ho
          have HT2 := Lib.hid c2
          clear ho ht
          go_wp2_with (go_at_call 39; obtain ⟨nn, hstn, hnn⟩ := HN.out.st; refine (chen.Step_yes (tabs HTA.out (HCC.out.trans HC6.out) HX0.out HF4.out.1 HF4.out.2 HV1.out) HN.out.shape (by have h1 := HN.out.steps; have h2 := HS1.out.2; have h3 := HT2.out; omega) HO.out (by have h3 := HT2.out; have h4 := HN1I.out; omega) hstn).mono ?_; rintro e w5 ⟨rfl, hcn⟩; have HX := Lib.hid (HN.out.made HO.out (opens_over HO.out) hnn hcn); clear hcn hstn hnn)
          have c3 := HT2.out
          go_roundw
          case rel => exact ⟨t + 1, by omega, by go_num, HX⟩
          case measure => simp [intOf]; omega
      · have c2I : ¬ (t : Int) < 130 := by omega
        obtain rfl : t = 130 := by omega
        go_wp2_with fail
        go_meet
        case rel => exact ⟨130, by omega, HN, Lib.hid rfl⟩
  case rest =>
  obtain ⟨u2, hu2, HN2, HE2⟩ := hcut
  rename World => wtwo
  have HSZ1 : Hid (bx < wone.heap.size ∧ mb < wone.heap.size ∧ (∀ z, sv.ownBlock = some z → z < wone.heap.size) ∧ (∀ z, v1.ownBlock = some z → z < wone.heap.size) ∧ wone.heap.size ≤ yb ∧ wone.heap.size ≤ kb ∧ (∀ z, ks.ownBlock = some z → wone.heap.size ≤ z) ∧ (∀ z, yv.ownBlock = some z → wone.heap.size ≤ z) ∧ wone.heap.size ≤ w6.heap.size ∧ yb < w6.heap.size ∧ kb < w6.heap.size ∧ (∀ z, ks.ownBlock = some z → z < w6.heap.size) ∧ (∀ z, yv.ownBlock = some z → z < w6.heap.size)) := Lib.hid
    ⟨HP1.out.box.lt, HP1.out.mem.box.lt, fun z hz => own_lt HP1.out.mem.row hz, fun z hz => own_lt HP1.out.row hz, HYX.out, Nat.le_trans HC5.out.size HK6.out.1, fun z hz => Nat.le_trans HC5.out.size (HK6.out.2 z hz), own_ge HYO.out, HC6.out.size, HY.out.box.lt, HY.out.mem.box.lt, fun z hz => own_lt HY.out.mem.row hz, fun z hz => own_lt HY.out.row hz⟩
  have HYD : Hid (Pair 83 yb kb ks wtwo q1.1 yv q1.2.1 q1.2.2 n1) := Lib.hid (run_keeps HN2.out HY.out (fun z hz => by
    obtain ⟨s1, s2, s3, s4, s5, s6, s7, s8, _⟩ := HSZ1.out
    have hge : wone.heap.size ≤ z := by
      rcases hz with rfl | rfl | hz | hz
      · exact s5
      · exact s6
      · exact s7 z hz
      · exact s8 z hz
    exact ⟨by omega, by omega, fun h => by have := s3 z h; omega, fun h => by have := s4 z h; omega⟩))
  have HW2 : Hid (Chg [] (W.alloc (.cells #[.int .i64 k, .int .i64 w, .int .i64 s, .int .i64 c, .int .u32 st, .slice ia il ic, .int .i64 wri, .slice ra rl rc, .int .i64 at_, .int .i64 op, .int .i64 rd_, .slice qa ql qc, .slice la ll lc, .slice pa pl pc] 36)) wtwo) := Lib.hid (run_new HN2.out (HCC.out.trans HC6.out) HX0.out HF4.out.1 HF4.out.2 HV1.out)
  obtain ⟨q2, hq2⟩ : ∃ q2 : Q, (chen.K.iter (.pointer (some ⟨mb, 0, none⟩)) u2 q1) = q2 := ⟨_, rfl⟩
  obtain ⟨n2, hst2, hn2⟩ := HN2.out.st
  rw [hq2] at hst2
  obtain ⟨v2, hp2, he2⟩ := hst2
  have HX2 := Lib.hid hp2
  have HV2 : Hid (∀ z, v2.ownBlock = some z → z < wone.heap.size ∨ w6.heap.size ≤ z) := Lib.hid (fun z hz => by
    rcases he2.own z hz with h1 | h1
    · exact .inl (HSZ1.out.2.2.2.1 z h1)
    · exact .inr h1)
  have HE2' := HE2
  rw [hq2] at HE2
  have HS2 : Hid (q2.1.steps = q2.1.steps) := Lib.hid rfl
  clear hp2 he2 hn2 HN2 HN20 HE2' HCC
  have HCC := HW2
  have HN30 : Hid (chen.K.Nx 83 yb kb ks wtwo yv q1 n1 wtwo 0) := Lib.hid (Kind.Nx.start (St.start HYD.out) HS1.out.1 HS1.out.2.2.2)
  go_upto_block 4 with (go_at_call 41; refine (chen.Steps_any (St.start HYD.out)).mono ?_; rintro e w7 ⟨rfl, rfl⟩)
  go_cut [13] from 97 to 105 (fun _ wc => ∃ u : Nat, u ≤ 130 ∧ Hid (chen.K.Nx 83 yb kb ks wtwo yv q1 n1 wc u) ∧ Hid ((chen.K.iter (.pointer (some ⟨kb, 0, none⟩)) 130 q1) = (chen.K.iter (.pointer (some ⟨kb, 0, none⟩)) u q1)))
  case first =>
    go_wp2_with fail
    go_loopw [13] (fun i wr => ∃ t : Nat, t ≤ 130 ∧ i = .int .i64 t ∧ Hid (chen.K.Nx 83 yb kb ks wtwo yv q1 n1 wr t)) (fun i _ => 130 - (intOf i).toNat)
    case atStart => exact ⟨0, by omega, rfl, HN30⟩
    case round =>
      obtain ⟨t, ht, rfl, HN⟩ := hrel
      have k9 : IntKind.i64.wrap ((t : Int) + 1) = (t : Int) + 1 := by rw [IntKind.wrap_i64]; omega
      by_cases c2 : t < 130
      · have c2I : (t : Int) < 130 := by omega
        cases ho : core.opens (chen.K.iter (.pointer (some ⟨kb, 0, none⟩)) t q1).1 (chen.K.iter (.pointer (some ⟨kb, 0, none⟩)) t q1).2.2.length
        · have HO := Lib.hid ho
          have HT := Lib.hid ht
          clear ho ht
          go_wp2_with (go_at_call 39; obtain ⟨nn, hstn, hnn⟩ := HN.out.st; refine (chen.Step_no HO.out hstn).mono ?_; rintro e w5 ⟨rfl, hcn⟩; have HX := Lib.hid (HN.out.keep hcn); clear hcn hstn hnn)
          go_meet
          case rel => exact ⟨t, HT.out, HX, Lib.hid (Kind.iter_stop _ _ _ HO.out 130 HT.out)⟩
        · have HO := Lib.hid ho
          have HT2 := Lib.hid c2
          clear ho ht
          go_wp2_with (go_at_call 39; obtain ⟨nn, hstn, hnn⟩ := HN.out.st; refine (chen.Step_yes (tabs HTA.out HCC.out (Nat.le_trans HW1.out.size HSZ1.out.2.2.2.2.1) (Nat.le_trans HW1.out.size HSZ1.out.2.2.2.2.2.1) (fun z hz => Nat.le_trans HW1.out.size (HSZ1.out.2.2.2.2.2.2.1 z hz)) (fun z hz => Nat.le_trans HW1.out.size (HSZ1.out.2.2.2.2.2.2.2.1 z hz))) HN.out.shape (by have h1 := HN.out.steps; have h2 := HS1.out.2; have h3 := HT2.out; omega) HO.out (by have h3 := HT2.out; have h4 := HN1I.out; omega) hstn).mono ?_; rintro e w5 ⟨rfl, hcn⟩; have HX := Lib.hid (HN.out.made HO.out (opens_over HO.out) hnn hcn); clear hcn hstn hnn)
          have c3 := HT2.out
          go_roundw
          case rel => exact ⟨t + 1, by omega, by go_num, HX⟩
          case measure => simp [intOf]; omega
      · have c2I : ¬ (t : Int) < 130 := by omega
        obtain rfl : t = 130 := by omega
        go_wp2_with fail
        go_meet
        case rel => exact ⟨130, by omega, HN, Lib.hid rfl⟩
  case rest =>
  obtain ⟨u3, hu3, HN3, HE3⟩ := hcut
  rename World => wthree
  have HXF : Hid (Pair 83 bx mb sv wthree q2.1 v2 q2.2.1 q2.2.2 n2) := Lib.hid (run_keeps HN3.out HX2.out (fun z hz => by
    obtain ⟨s1, s2, s3, s4, s5, s6, s7, s8, s9, t1, t2, t3, t4⟩ := HSZ1.out
    have hlt : z < wone.heap.size ∨ w6.heap.size ≤ z := by
      rcases hz with rfl | rfl | hz | hz
      · exact .inl s1
      · exact .inl s2
      · exact .inl (s3 z hz)
      · exact HV2.out z hz
    exact ⟨by omega, by omega, fun h => by have := s7 z h; have := t3 z h; omega, fun h => by have := s8 z h; have := t4 z h; omega⟩))
  have HW3 : Hid (Chg [] (W.alloc (.cells #[.int .i64 k, .int .i64 w, .int .i64 s, .int .i64 c, .int .u32 st, .slice ia il ic, .int .i64 wri, .slice ra rl rc, .int .i64 at_, .int .i64 op, .int .i64 rd_, .slice qa ql qc, .slice la ll lc, .slice pa pl pc] 36)) wthree) := Lib.hid (run_new HN3.out HCC.out (Nat.le_trans HW1.out.size HSZ1.out.2.2.2.2.1) (Nat.le_trans HW1.out.size HSZ1.out.2.2.2.2.2.1) (fun z hz => Nat.le_trans HW1.out.size (HSZ1.out.2.2.2.2.2.2.1 z hz)) (fun z hz => Nat.le_trans HW1.out.size (HSZ1.out.2.2.2.2.2.2.2.1 z hz)))
  have hsame : Same q2 ((chen.K.iter (.pointer (some ⟨kb, 0, none⟩)) u3 q1)) := by
    rw [← HE3.out, ← HE2.out]
    exact Same.iter chen.free ⟨q1.1.m, rfl⟩ _ _ 130
  obtain ⟨n3, hst3, hn3⟩ := HN3.out.st
  obtain ⟨am, ham⟩ := hsame
  rw [ham] at hst3
  obtain ⟨v3, hp3, he3⟩ := hst3
  obtain ⟨y3, hy3⟩ : ∃ y3 : Core, ({ q2.1 with m := am } : Core) = y3 := ⟨_, rfl⟩
  have HY3 : Hid (y3.over = q2.1.over ∧ y3.code = q2.1.code ∧ y3.steps = q2.1.steps) := Lib.hid (by rw [← hy3]; exact ⟨rfl, rfl, rfl⟩)
  have HYF : Hid (Pair 83 yb kb ks wthree y3 v3 q2.2.1 q2.2.2 n3) := Lib.hid (by rw [← hy3]; exact hp3)
  obtain ⟨cd, hcd⟩ : ∃ cd, (if q2.1.over then q2.1.code else 0) = cd := ⟨_, rfl⟩
  obtain ⟨rr, hrr⟩ : ∃ rr, (if q2.1.over then q2.2.1 else []) = rr := ⟨_, rfl⟩
  have HAX : Hid (∀ V, Chg [] wthree V → Calls Tryd.prog 42 #[.pointer (some ⟨bx, 0, none⟩)] V fun e W' => ∃ v', e = .returned (.tuple #[v', .int .i64 cd]) ∧ OwnW W' V.heap.size v' rr ∧ Chg [] V W') := Lib.hid (fun V hV => by rw [← hcd, ← hrr]; exact chen.Answer_any (HXF.out.keep hV))
  have HAY : Hid (∀ V, Chg [] wthree V → Calls Tryd.prog 42 #[.pointer (some ⟨yb, 0, none⟩)] V fun e W' => ∃ v', e = .returned (.tuple #[v', .int .i64 cd]) ∧ OwnW W' V.heap.size v' rr ∧ Chg [] V W') := Lib.hid (fun V hV => by rw [← hcd, ← hrr, ← HY3.out.1, ← HY3.out.2.1]; exact chen.Answer_any (HYF.out.keep hV))
  have HRR : Hid ((∀ z ∈ rr, (Lit.int .u32 z).wf = true) ∧ rr.length ≤ 1000000) := Lib.hid (by
    rw [← hrr]
    split
    · exact ⟨HXF.out.wf, by have := HXF.out.short; omega⟩
    · exact ⟨by simp, by simp⟩)
  have HWW : Hid ((∀ z ∈ q2.2.2, (Lit.int .u32 z).wf = true) ∧ q2.2.2.length ≤ 1000000) := Lib.hid ⟨HXF.out.mem.wf, by have := HXF.out.mem.short; omega⟩
  obtain ⟨ov, hov⟩ : ∃ ov, q2.1.over = ov := ⟨_, rfl⟩
  obtain ⟨sp, hsp⟩ : ∃ sp, q2.1.steps = sp := ⟨_, rfl⟩
  obtain ⟨ww, hww⟩ : ∃ ww, q2.2.2 = ww := ⟨_, rfl⟩
  have HXO : Hid (∀ V, Chg [] wthree V → Calls Tryd.prog 40 #[.pointer (some ⟨bx, 0, none⟩)] V fun e W' => e = .returned (.bool ov) ∧ V = W') := Lib.hid (fun V hV => by rw [← hov]; exact chen.Over_any (St.start (HXF.out.keep hV)))
  have HYO2 : Hid (∀ V, Chg [] wthree V → Calls Tryd.prog 40 #[.pointer (some ⟨yb, 0, none⟩)] V fun e W' => e = .returned (.bool ov) ∧ V = W') := Lib.hid (fun V hV => by rw [← hov, ← HY3.out.1]; exact chen.Over_any (St.start (HYF.out.keep hV)))
  have HXS : Hid (∀ V, Chg [] wthree V → Calls Tryd.prog 41 #[.pointer (some ⟨bx, 0, none⟩)] V fun e W' => e = .returned (.int .i64 sp) ∧ V = W') := Lib.hid (fun V hV => by rw [← hsp]; exact chen.Steps_any (St.start (HXF.out.keep hV)))
  have HYS : Hid (∀ V, Chg [] wthree V → Calls Tryd.prog 41 #[.pointer (some ⟨yb, 0, none⟩)] V fun e W' => e = .returned (.int .i64 sp) ∧ V = W') := Lib.hid (fun V hV => by rw [← hsp, ← HY3.out.2.2]; exact chen.Steps_any (St.start (HYF.out.keep hV)))
  have HXW : Hid (∀ V, Chg [] wthree V → Calls Tryd.prog 47 #[.pointer (some ⟨mb, 0, none⟩)] V fun e W' => ∃ v, e = .returned v ∧ OwnW W' V.heap.size v ww ∧ Chg [] V W') := Lib.hid (fun V hV => by rw [← hww]; exact Words_ok mb sv _ _ _ (HXF.out.mem.fresh hV))
  have HYW : Hid (∀ V, Chg [] wthree V → Calls Tryd.prog 47 #[.pointer (some ⟨kb, 0, none⟩)] V fun e W' => ∃ v, e = .returned v ∧ OwnW W' V.heap.size v ww ∧ Chg [] V W') := Lib.hid (fun V hV => by rw [← hww]; exact Words_ok kb ks _ _ _ (HYF.out.mem.fresh hV))
  rw [hww] at HWW
  clear hcd hrr hov hsp hww hy3 hp3 he3 ham hn3 HXF HYF HY3 HX2 HYD HE2 HE3 HN3 HN30 hq2
  have HF := Lib.hid (Chg.refl [] wthree)
  go_wp2_with (first
    | (go_at_call 42; first | ((with_reducible show Calls _ _ #[.pointer (some ⟨bx, 0, none⟩)] _ _); refine (HAX.out _ HF.out).mono ?_; rintro e wk ⟨xa, rfl, ho, hc⟩; have HF := Lib.hid (HF.out.trans hc); have HA1 := Lib.hid (OwnW.reads ho HRR.out.1); clear ho hc; obtain ⟨xa1, xa2, rfl, _⟩ := reads_slice HA1.out.1) | (refine (HAY.out _ HF.out).mono ?_; rintro e wk ⟨ya, rfl, ho, hc⟩; have HF := Lib.hid (HF.out.trans hc); have HA1 := Lib.hid (HA1.out.chg hc); have HA2 := Lib.hid (OwnW.reads ho HRR.out.1); clear ho hc; obtain ⟨ya1, ya2, rfl, _⟩ := reads_slice HA2.out.1))
    | (go_at_call 21; first | ((with_reducible show Calls _ _ #[.slice xa1 _ _, _] _ _); refine (Words_any _ _ rr rr _ HA1.out HA2.out HRR.out.2 HRR.out.2).mono ?_; rintro e wk ⟨rfl, hq⟩; have HF := Lib.hid (HF.out.quiet hq); clear hq; rw [show wordsB rr rr = true from by simp [wordsB]]) | (refine (Words_any _ _ ww ww _ HB1.out HB2.out HWW.out.2 HWW.out.2).mono ?_; rintro e wk ⟨rfl, hq⟩; have HF := Lib.hid (HF.out.quiet hq); clear hq; rw [show wordsB ww ww = true from by simp [wordsB]]))
    | (go_at_call 40; first | ((with_reducible show Calls _ _ #[.pointer (some ⟨bx, 0, none⟩)] _ _); refine (HXO.out _ HF.out).mono ?_; rintro e wk ⟨rfl, rfl⟩) | (refine (HYO2.out _ HF.out).mono ?_; rintro e wk ⟨rfl, rfl⟩))
    | (go_at_call 41; first | ((with_reducible show Calls _ _ #[.pointer (some ⟨bx, 0, none⟩)] _ _); refine (HXS.out _ HF.out).mono ?_; rintro e wk ⟨rfl, rfl⟩) | (refine (HYS.out _ HF.out).mono ?_; rintro e wk ⟨rfl, rfl⟩))
    | (go_at_call 47; first | ((with_reducible show Calls _ _ #[.pointer (some ⟨mb, 0, none⟩)] _ _); refine (HXW.out _ HF.out).mono ?_; rintro e wk ⟨xb, rfl, ho, hc⟩; have HF := Lib.hid (HF.out.trans hc); have HB1 := Lib.hid (OwnW.reads ho HWW.out.1); clear ho hc; obtain ⟨xb1, xb2, rfl, _⟩ := reads_slice HB1.out.1) | (refine (HYW.out _ HF.out).mono ?_; rintro e wk ⟨yy, rfl, ho, hc⟩; have HF := Lib.hid (HF.out.trans hc); have HB1 := Lib.hid (HB1.out.chg hc); have HB2 := Lib.hid (OwnW.reads ho HWW.out.1); clear ho hc; obtain ⟨yb1, yb2, rfl, _⟩ := reads_slice HB2.out.1))
    | (go_at_call 24; refine (chen.awake_any _ (HTA.out.keep (HW3.out.trans HF.out))).mono ?_; rintro e wz ⟨rfl, hcz⟩; have HZ := Lib.hid hcz; clear hcz))
  go_ret
  exact ⟨rfl, (HCA.out.trans ((HW3.out.trans HF.out).trans HZ.out)).below⟩
theorem own : ownKnob Tryd.prog.godebug = none := by kernel_rfl
theorem laidOut : laidOutB Tryd.prog = true := by kernel_rfl

/-- The walk: the law returns true, and nothing that was there has turned. -/
theorem walk (w : World) (hT : bitm.Tab w) (cs0 : Array Value) (hs0 : cs0.size = Tryd.prog.cellsOf 36) (o0 : kit.Opens Tryd.prog w 9 36 cs0.toList) (x1 : Int) (w1 : (Lit.int .i64 x1).wf = true) :
    Calls Tryd.prog 12 #[.agg cs0, .int .i64 x1] w fun e w' => e = .returned (.bool true) ∧ Below w.heap.size w w' := by
  set_option maxRecDepth 100000 in
  obtain ⟨k, wq, s, c, st, ia, il, ic, wri, ra, rl, rc, at_, op, rd_, qa, ql, qc, la, ll, lc, pa, pl, pc, hcs, hb, hat, hop, hrd, ⟨ini, hini⟩, ⟨rec, hrec⟩, ⟨l, hl⟩, ⟨ps, hps⟩⟩ := case_open (n := 4) o0
  have hcs2 : cs0 = #[.int .i64 k, .int .i64 wq, .int .i64 s, .int .i64 c, .int .u32 st, .slice ia il ic, .int .i64 wri, .slice ra rl rc, .int .i64 at_, .int .i64 op, .int .i64 rd_, .slice qa ql qc, .slice la ll lc, .slice pa pl pc] := by
    apply Array.toList_inj.1; rw [hcs]
  subst hcs2
  cases hL : lightB il rl ql ll pl
  · exact big k wq s c st ia il ic wri ra rl rc at_ op rd_ qa ql qc la ll lc pa pl pc x1 hL w hT
  · have hL2 := hL
    simp only [lightB, Bool.and_eq_true, decide_eq_true_eq] at hL2
    have hO := hb hL2.1.1.1.1 hL2.1.1.1.2
    have hrl : rec.length ≤ 1000 := by
      have e2 : ql = rec.length := by obtain ⟨_, _, he, _⟩ := reads_slice hrec.1; simp at he; exact he.2.1
      omega
    cases hR : (decide (k = 2) && rightB k wq s c st il rl)
    · exact none_ k wq s c st ia il ic wri ra rl rc at_ op rd_ qa ql qc la ll lc pa pl pc x1 rec 0 hL (fun V => chen.Size_no k wq s c st ia il ic wri ra rl rc hO hR V) (by unfold begI; rw [if_pos (.inl (by omega))]; omega) w hT hrec hrl
    · have hbd := rightB_bd (by simp only [Bool.and_eq_true] at hR; exact hR.2)
      obtain ⟨wN, hw⟩ : ∃ wN : Nat, wq = (wN : Int) := ⟨wq.toNat, by omega⟩
      obtain ⟨N, hN⟩ : ∃ N : Nat, 1 + rl + (((rl : Int) + 2) * wq).toNat = N := ⟨_, rfl⟩
      by_cases hB : begI wq rl (N : Int) at_ op rd_ 2 1 rec.length = 0
      · exact run k wq s c st ia il ic wri ra rl rc at_ op rd_ qa ql qc la ll lc pa pl pc x1 (wf_i64 w1) N wN rec l ps w hT ⟨hL, hO, hR, hw, hN.symm, hB, hrec, hl, hps, hat⟩
      · exact none_ k wq s c st ia il ic wri ra rl rc at_ op rd_ qa ql qc la ll lc pa pl pc x1 rec N hL (fun V => by rw [← hN]; exact chen.Size_yes k wq s c st ia il ic wri ra rl rc wN hw hO hR V) hB w hT hrec hrl

set_option maxRecDepth 100000 in
theorem lifted (os : Os) (started : os.Started) (H : Type) (enc : TypeId × Value → H) :
    ReturnsInHanded {} Tryd.checked os 12 .any (fun w args => (Rows.chenClonesSpec.pre enc Tryd.prog Tryd.f12 [] false w args ∧ laidMetH Tryd.prog bitm.laids w) ∧ sizedMet enc Tryd.prog Tryd.f12 (OpenSpec.ofChange Rows.chenClonesSpec) false w args) (Rows.chenClonesSpec.post enc Tryd.prog Tryd.f12 false true false false) := by
  refine returnsInHanded_of_change_and (C := Tryd.checked) (X := fun w _ => laidMetH Tryd.prog bitm.laids w) (fun _ _ _ hh h => h.of_heap hh) own started (by kernel_rfl) Tryd.func12
    (ChangeSpec.witness_shaped (enc := enc) (C := Tryd.checked) (os := os) (X := fun w _ => laidMetH Tryd.prog bitm.laids w) false (World.doorLaid Tryd.prog 14 os) #[.agg #[.int .i64 0, .int .i64 0, .int .i64 0, .int .i64 0, .int .u32 0, .slice none 0 0, .int .i64 0, .slice none 0 0, .int .i64 0, .int .i64 0, .int .i64 0, .slice none 0 0, .slice none 0 0, .slice none 0 0], .int .i64 0] 8 rfl (World.shaped_of_RefB (by kernel_rfl) (by kernel_rfl)) (by kernel_rfl) (by kernel_rfl) (by kernel_rfl) (bitm.door_met os _)) ?_
  intro W base args ds gs before hval0 hW hcnd _ hL _
  have hval : ∀ (j : Nat) t v, Tryd.f12.params[j]? = some t → args[j]? = some v → Value.okWide Tryd.prog W .any base t v := hval0
  have hW' := hW
  obtain ⟨p, q, hA0, hV, rfl, hfz, hnd⟩ := hW
  have hA : DataW.TrodAll enc Tryd.prog W 0 (fun _ => true) true Tryd.f12.params.toList args.toList ds p := hA0
  rw [Tryd.params12] at hA hval
  obtain ⟨v0, vs0, d0, ds0, p0, q0, hargs, rfl, rfl, h0, r0⟩ := trodAll_cons hA
  obtain ⟨v1, vs1, d1, ds1, p1, q1, rfl, rfl, rfl, h1, r1⟩ := trodAll_cons r0
  obtain ⟨rfl, rfl, rfl⟩ := trodAll_nil r1
  obtain rfl : args = #[v0, v1] := by cases args; simp_all
  obtain ⟨rfl, rfl⟩ := trodVars_none hV
  have k0 := h0
  have lt0 : ∀ x ∈ p0, x.block < W.heap.size := by obtain ⟨m, hm⟩ := k0; exact DataW.trod_lt m _ _ _ hm
  have k1 := h1
  have lt1 : ∀ x ∈ p1, x.block < W.heap.size := by obtain ⟨m, hm⟩ := k1; exact DataW.trod_lt m _ _ _ hm
  obtain ⟨cs0, rfl, hs0⟩ := okWide_struct Tryd.underlying36 (hval 0 36 v0 rfl rfl)
  have o0 : kit.Opens Tryd.prog W 9 36 cs0.toList := by simpa [Value.cells] using kit.Trod_opens 9 k0
  obtain ⟨x1, rfl, _, _, w1⟩ := open_int Tryd.underlying3 (hval 1 3 v1 rfl rfl) h1
  clear hA0 hval0
  refine (walk W (bitm.tab_of_laid hL) cs0 hs0 o0 x1 w1).mono fun e W' ⟨he, bel⟩ => ?_
  subst he
  exact ⟨_, rfl, _, _, _, [], _, [], hW', trodAll_mk1 (shut_bool Tryd.underlying4 _), (trodAll_cons_mk (Below.trod laidOut (by kernel_rfl) (of_decide_eq_true (by kernel_rfl)) k0 bel lt0) (trodAll_cons_mk (Below.trod laidOut (by kernel_rfl) (of_decide_eq_true (by kernel_rfl)) k1 bel lt1) trodAll_mk0)), rfl, bel.frame _, fun h => by cases h⟩

theorem over : Rows.chenClonesRow.holds Tryd.pinned (OpenSpec.ofChange Rows.chenClonesSpec) :=
  OpenClaim.holds_of_wide 12 Tryd.f12 rfl rfl rfl rfl rfl rfl rfl ⟨rfl, rfl, rfl, rfl, rfl⟩ rfl rfl rfl rfl rfl (by kernel_rfl) Tryd.func12 (by kernel_rfl)
    (of_decide_eq_true (by kernel_rfl)) (by unfold Func.isWrapper; first | (rw [if_pos (by decide +kernel)]; kernel_rfl) | (rw [if_neg (by decide +kernel)]; exact ⟨rfl, rfl⟩))
    (fun os started H enc _ => lifted os started H enc)

/-- The statement: the tied card. -/
theorem proved : Rows.ChenClonesCardSaid :=
  Claim7.holds_tied_plain_at .later [] [.data] true (true, "2e2be42b2330c043c67e7858dff84d72ae4a187c610b75565135d5b7ac40942f") false
    over (fun _ h => by cases h) (by kernel_rfl) (fun _ h => by cases h) chenClones_row_tie rfl ⟨rfl, rfl⟩ (by kernel_rfl) rfl
    (fun f fn hf hfn => by
      obtain rfl : f = 12 := Option.some.inj ((show Tryd.prog.funcNamed "coxswain/coxswainlaw15.ChenClones" = some 12 by kernel_rfl).symm.trans hf) |>.symm
      obtain rfl : fn = Tryd.f12 := (Option.some.inj (Tryd.func12.symm.trans hfn)).symm
      exact ⟨by kernel_rfl, fun j t ht => by
        rw [Tryd.params12] at ht
        have hm : t ∈ [36, 3] := by simpa using Array.mem_of_getElem? ht
        have hall : ([36, 3].all fun u => !Tryd.prog.wantsStandIn u) = true := by kernel_rfl
        exact (show Tryd.prog.wantsStandIn t = false by simpa using List.all_eq_true.1 hall t hm)⟩)
    (by kernel_rfl)
end Go.Proofs.YtapaolaemkhbdaaDoor.chenClones
