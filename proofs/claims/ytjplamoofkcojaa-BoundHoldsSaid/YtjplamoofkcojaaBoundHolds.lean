/-
  coxswainlaw35.BoundHolds returns true for every c: any operation of which so many attempts failed made no more steps than is told, whatever others do to the memory. No conditions.
-/
import Derived.Test.YtjplamoofkcojaaRows
import Derived.WalkKit
import Derived.ProofKit
import Derived.OpenShut
import Derived.ShutString
import Derived.ChangeOld
import Derived.Below
import Derived.Test.YtjplamoofkcojaaOpen
import Derived.Test.YtjplamoofkcojaaHoldA
import Derived.Test.YtjplamoofkcojaaBndA
import Derived.Deep.CutBlock
namespace Go.Proofs.Ytjplamoofkcojaa.boundHolds
open Go.ChangeShapes Go.WideShapes Go.ChangeAt Go.RowKit
open Go.ChangeMaps (open_string shut_string)
set_option linter.unusedVariables false
open Go.Proofs.Ytjplamoofkcojaa.kit Go.Proofs.Ytjplamoofkcojaa.obj Go.Proofs.Ytjplamoofkcojaa.mem Go.Proofs.Ytjplamoofkcojaa.core
set_option linter.unusedSimpArgs false
set_option maxRecDepth 100000
set_option maxHeartbeats 4000000 in
theorem big (k w s c st : Int) (ia : Option Addr) (il ic : Nat) (wri : Int) (ra : Option Addr) (rl rc : Nat) (at_ op rd_ : Int) (qa : Option Addr) (ql qc : Nat) (la : Option Addr) (ll lc : Nat) (pa : Option Addr) (pl pc : Nat) (hl : lightB il rl ql ll pl = false) (W : World) :
    Calls Try.prog 4 #[.agg #[.int .i64 k, .int .i64 w, .int .i64 s, .int .i64 c, .int .u32 st, .slice ia il ic, .int .i64 wri, .slice ra rl rc, .int .i64 at_, .int .i64 op, .int .i64 rd_, .slice qa ql qc, .slice la ll lc, .slice pa pl pc]] W fun e W' => e = .returned (.bool true) ∧ Below W.heap.size W W' := by
  have HL := Lib.hid hl
  clear hl
  have HBX : Hid (Blk (W.alloc (.cells #[.int .i64 k, .int .i64 w, .int .i64 s, .int .i64 c, .int .u32 st, .slice ia il ic, .int .i64 wri, .slice ra rl rc, .int .i64 at_, .int .i64 op, .int .i64 rd_, .slice qa ql qc, .slice la ll lc, .slice pa pl pc] 34)) W.heap.size #[.int .i64 k, .int .i64 w, .int .i64 s, .int .i64 c, .int .u32 st, .slice ia il ic, .int .i64 wri, .slice ra rl rc, .int .i64 at_, .int .i64 op, .int .i64 rd_, .slice qa ql qc, .slice la ll lc, .slice pa pl pc] 34) := Lib.hid (Blk.new W _ _)
  have HCA : Hid (Chg [] W (W.alloc (.cells #[.int .i64 k, .int .i64 w, .int .i64 s, .int .i64 c, .int .u32 st, .slice ia il ic, .int .i64 wri, .slice ra rl rc, .int .i64 at_, .int .i64 op, .int .i64 rd_, .slice qa ql qc, .slice la ll lc, .slice pa pl pc] 34))) := Lib.hid ((Chg.refl _ _).alloc _)
  have HCC : Hid (Chg [] (W.alloc (.cells #[.int .i64 k, .int .i64 w, .int .i64 s, .int .i64 c, .int .u32 st, .slice ia il ic, .int .i64 wri, .slice ra rl rc, .int .i64 at_, .int .i64 op, .int .i64 rd_, .slice qa ql qc, .slice la ll lc, .slice pa pl pc] 34)) (W.alloc (.cells #[.int .i64 k, .int .i64 w, .int .i64 s, .int .i64 c, .int .u32 st, .slice ia il ic, .int .i64 wri, .slice ra rl rc, .int .i64 at_, .int .i64 op, .int .i64 rd_, .slice qa ql qc, .slice la ll lc, .slice pa pl pc] 34))) := Lib.hid (Chg.refl _ _)
  go_enter Try.func4, Try.ntmps4
  go_wp2_with (first | (go_at_call 17; refine (Light_any k w s c st ia il ic wri ra rl rc at_ op rd_ qa ql qc la ll lc pa pl pc _).mono ?_; rintro e wx ⟨rfl, hcx⟩; rw [HL.out]; have HCC := Lib.hid (HCC.out.trans hcx); have HBX := Lib.hid (HBX.out.keep hcx (by simp)); clear hcx; have e0 : wx.cell? ⟨W.heap.size, 0, none⟩ = some (.int .i64 k) := HBX.out.cell rfl; have e1 : wx.cell? ⟨W.heap.size, 1, none⟩ = some (.int .i64 w) := HBX.out.cell rfl; have e2 : wx.cell? ⟨W.heap.size, 2, none⟩ = some (.int .i64 s) := HBX.out.cell rfl; have e3 : wx.cell? ⟨W.heap.size, 3, none⟩ = some (.int .i64 c) := HBX.out.cell rfl; have e4 : wx.cell? ⟨W.heap.size, 4, none⟩ = some (.int .u32 st) := HBX.out.cell rfl; have e5 : wx.cell? ⟨W.heap.size, 5, none⟩ = some (.slice ia il ic) := HBX.out.cell rfl; have e6 : wx.cell? ⟨W.heap.size, 6, none⟩ = some (.int .i64 wri) := HBX.out.cell rfl; have e7 : wx.cell? ⟨W.heap.size, 7, none⟩ = some (.slice ra rl rc) := HBX.out.cell rfl; have e8 : wx.cell? ⟨W.heap.size, 8, none⟩ = some (.int .i64 at_) := HBX.out.cell rfl; have e9 : wx.cell? ⟨W.heap.size, 9, none⟩ = some (.int .i64 op) := HBX.out.cell rfl; have e10 : wx.cell? ⟨W.heap.size, 10, none⟩ = some (.int .i64 rd_) := HBX.out.cell rfl; have e11 : wx.cell? ⟨W.heap.size, 11, none⟩ = some (.slice qa ql qc) := HBX.out.cell rfl; have e12 : wx.cell? ⟨W.heap.size, 12, none⟩ = some (.slice la ll lc) := HBX.out.cell rfl; have e13 : wx.cell? ⟨W.heap.size, 13, none⟩ = some (.slice pa pl pc) := HBX.out.cell rfl) | (go_at_call 9; refine (awakeB_any _).mono ?_; rintro e wz ⟨rfl, hcz⟩; have HZ := Lib.hid hcz; clear hcz))
  go_ret
  exact ⟨rfl, (HCA.out.trans (HCC.out.trans HZ.out)).below⟩

set_option maxHeartbeats 8000000 in
theorem none_ (k w s c st : Int) (ia : Option Addr) (il ic : Nat) (wri : Int) (ra : Option Addr) (rl rc : Nat) (at_ op rd_ : Int) (qa : Option Addr) (ql qc : Nat) (la : Option Addr) (ll lc : Nat) (pa : Option Addr) (pl pc : Nat) (rec : List Int) (hl : lightB il rl ql ll pl = true) (hO : ObjW k w s c st il rl)
    (hb : begI w rl (rop.sizeI k w s c st il rl) at_ op rd_ (writesI k) (readsI k) rec.length ≠ 0) (W : World) (hrec : ReadsW W (.slice qa ql qc) rec) :
    Calls Try.prog 4 #[.agg #[.int .i64 k, .int .i64 w, .int .i64 s, .int .i64 c, .int .u32 st, .slice ia il ic, .int .i64 wri, .slice ra rl rc, .int .i64 at_, .int .i64 op, .int .i64 rd_, .slice qa ql qc, .slice la ll lc, .slice pa pl pc]] W fun e W' => e = .returned (.bool true) ∧ Below W.heap.size W W' := by
  have HBG : Hid (∀ V (hv : ReadsW V (.slice qa ql qc) rec), Calls Try.prog 18 #[.agg #[.int .i64 k, .int .i64 w, .int .i64 s, .int .i64 c, .int .u32 st, .slice ia il ic, .int .i64 wri, .slice ra rl rc], .int .i64 at_, .int .i64 op, .int .i64 rd_, .slice qa ql qc] V fun e W' => e = .returned (.tuple #[.pointer none, .int .i64 (begI w rl (rop.sizeI k w s c st il rl) at_ op rd_ (writesI k) (readsI k) rec.length)]) ∧ Chg [] V W') :=
    Lib.hid (fun V hv => ref.rBegin_bad k w s c st ia il ic wri ra rl rc at_ op rd_ _ rec V hv hO hb)
  generalize begI w rl (rop.sizeI k w s c st il rl) at_ op rd_ (writesI k) (readsI k) rec.length = E at *
  have hb1 : (E != 0) = true := by simpa using hb
  have HL := Lib.hid hl
  have HREC := Lib.hid hrec
  clear hl hb hrec hO
  have HBX : Hid (Blk (W.alloc (.cells #[.int .i64 k, .int .i64 w, .int .i64 s, .int .i64 c, .int .u32 st, .slice ia il ic, .int .i64 wri, .slice ra rl rc, .int .i64 at_, .int .i64 op, .int .i64 rd_, .slice qa ql qc, .slice la ll lc, .slice pa pl pc] 34)) W.heap.size #[.int .i64 k, .int .i64 w, .int .i64 s, .int .i64 c, .int .u32 st, .slice ia il ic, .int .i64 wri, .slice ra rl rc, .int .i64 at_, .int .i64 op, .int .i64 rd_, .slice qa ql qc, .slice la ll lc, .slice pa pl pc] 34) := Lib.hid (Blk.new W _ _)
  have HCA : Hid (Chg [] W (W.alloc (.cells #[.int .i64 k, .int .i64 w, .int .i64 s, .int .i64 c, .int .u32 st, .slice ia il ic, .int .i64 wri, .slice ra rl rc, .int .i64 at_, .int .i64 op, .int .i64 rd_, .slice qa ql qc, .slice la ll lc, .slice pa pl pc] 34))) := Lib.hid ((Chg.refl _ _).alloc _)
  have HCC : Hid (Chg [] (W.alloc (.cells #[.int .i64 k, .int .i64 w, .int .i64 s, .int .i64 c, .int .u32 st, .slice ia il ic, .int .i64 wri, .slice ra rl rc, .int .i64 at_, .int .i64 op, .int .i64 rd_, .slice qa ql qc, .slice la ll lc, .slice pa pl pc] 34)) (W.alloc (.cells #[.int .i64 k, .int .i64 w, .int .i64 s, .int .i64 c, .int .u32 st, .slice ia il ic, .int .i64 wri, .slice ra rl rc, .int .i64 at_, .int .i64 op, .int .i64 rd_, .slice qa ql qc, .slice la ll lc, .slice pa pl pc] 34))) := Lib.hid (Chg.refl _ _)
  go_enter Try.func4, Try.ntmps4
  go_wp2_with (first
    | (go_at_call 17; refine (Light_any k w s c st ia il ic wri ra rl rc at_ op rd_ qa ql qc la ll lc pa pl pc _).mono ?_; rintro e wx ⟨rfl, hcx⟩; rw [HL.out]; have HCC := Lib.hid (HCC.out.trans hcx); have HBX := Lib.hid (HBX.out.keep hcx (by simp)); clear hcx; have e0 : wx.cell? ⟨W.heap.size, 0, none⟩ = some (.int .i64 k) := HBX.out.cell rfl; have e1 : wx.cell? ⟨W.heap.size, 1, none⟩ = some (.int .i64 w) := HBX.out.cell rfl; have e2 : wx.cell? ⟨W.heap.size, 2, none⟩ = some (.int .i64 s) := HBX.out.cell rfl; have e3 : wx.cell? ⟨W.heap.size, 3, none⟩ = some (.int .i64 c) := HBX.out.cell rfl; have e4 : wx.cell? ⟨W.heap.size, 4, none⟩ = some (.int .u32 st) := HBX.out.cell rfl; have e5 : wx.cell? ⟨W.heap.size, 5, none⟩ = some (.slice ia il ic) := HBX.out.cell rfl; have e6 : wx.cell? ⟨W.heap.size, 6, none⟩ = some (.int .i64 wri) := HBX.out.cell rfl; have e7 : wx.cell? ⟨W.heap.size, 7, none⟩ = some (.slice ra rl rc) := HBX.out.cell rfl; have e8 : wx.cell? ⟨W.heap.size, 8, none⟩ = some (.int .i64 at_) := HBX.out.cell rfl; have e9 : wx.cell? ⟨W.heap.size, 9, none⟩ = some (.int .i64 op) := HBX.out.cell rfl; have e10 : wx.cell? ⟨W.heap.size, 10, none⟩ = some (.int .i64 rd_) := HBX.out.cell rfl; have e11 : wx.cell? ⟨W.heap.size, 11, none⟩ = some (.slice qa ql qc) := HBX.out.cell rfl; have e12 : wx.cell? ⟨W.heap.size, 12, none⟩ = some (.slice la ll lc) := HBX.out.cell rfl; have e13 : wx.cell? ⟨W.heap.size, 13, none⟩ = some (.slice pa pl pc) := HBX.out.cell rfl)
    | (go_at_call 18; refine (HBG.out _ (HREC.out.chg (HCA.out.trans HCC.out))).mono ?_; rintro e wb ⟨rfl, hcx⟩; have HCC := Lib.hid (HCC.out.trans hcx); clear hcx)
    | (go_at_call 9; refine (awakeB_any _).mono ?_; rintro e wz ⟨rfl, hcz⟩; have HZ := Lib.hid hcz; clear hcz))
  go_ret
  exact ⟨rfl, (HCA.out.trans (HCC.out.trans HZ.out)).below⟩

theorem opens_over {x : Core} {l : Nat} (h : opens x l = true) : x.over = false := by
  simp only [opens, Bool.and_eq_true, Bool.not_eq_true'] at h
  exact h.1
theorem opens_fit {x : Core} {l : Nat} (h : opens x l = true) : 0 ≤ x.base ∧ x.base + x.size ≤ (l : Int) := by
  simp only [opens, Bool.and_eq_true, insB, decide_eq_true_eq] at h
  omega
set_option maxHeartbeats 16000000 in
theorem run {K : Kind} {kk : Int} {Rel : Core → rop.ROp → Prop} (H : ref.Ties K Rel) (L : core.Lasts K kk) (R : core.Ranged K) (HRM : ∀ {x : Core} {rec : List Int}, K.Shape x rec → 1 ≤ x.size) (HT : ∀ {x : Core} {z : rop.ROp}, Rel x z → z.tries = x.tries)
    (k w s c st : Int) (ia : Option Addr) (il ic : Nat) (wri : Int) (ra : Option Addr) (rl rc : Nat) (at_ op rd_ : Int) (qa : Option Addr) (ql qc : Nat) (la : Option Addr) (ll lc : Nat) (pa : Option Addr) (pl pc : Nat) (rec l : List Int) (ps : List Poke) (W : World)
    (hl : lightB il rl ql ll pl = true) (hO : ObjW k w s c st il rl) (hk : k = kk) (hR : rightB kk w s c st il rl = true) (hbeg : begI w rl (rop.sizeI k w s c st il rl) at_ op rd_ (writesI k) (readsI k) rec.length = 0) (hrec : ReadsW W (.slice qa ql qc) rec) (hlr : ReadsW W (.slice la ll lc) l) (hps : ReadsP W (.slice pa pl pc) ps)
    (hsh : K.Shape ({ k := k, w := w, s := s, c := c, st := st, ia := ia, il := il, ic := ic, wr := wri, ra := ra, rl := rl, rc := rc, op := op, reader := rd_, phase := 0, i := 0, tries := 0, a := 0, b := 0, used := 0, m := .pointer none, base := at_, size := rop.sizeI k w s c st il rl, code := 0, steps := 0, over := false } : Core) rec) (hrel : ∀ vy, Rel ({ k := k, w := w, s := s, c := c, st := st, ia := ia, il := il, ic := ic, wr := wri, ra := ra, rl := rl, rc := rc, op := op, reader := rd_, phase := 0, i := 0, tries := 0, a := 0, b := 0, used := 0, m := .pointer none, base := at_, size := rop.sizeI k w s c st il rl, code := 0, steps := 0, over := false } : Core) ({ k := k, w := w, s := s, c := c, st := st, ia := ia, il := il, ic := ic, wr := wri, ra := ra, rl := rl, rc := rc, at_ := at_, op := op, reader := rd_, row := 0, i := 0, tries := 0, code := 0, steps := 0, a := 0, b := 0, u := fun _ => false, rcd := vy, over := false } : rop.ROp)) :
    Calls Try.prog 4 #[.agg #[.int .i64 k, .int .i64 w, .int .i64 s, .int .i64 c, .int .u32 st, .slice ia il ic, .int .i64 wri, .slice ra rl rc, .int .i64 at_, .int .i64 op, .int .i64 rd_, .slice qa ql qc, .slice la ll lc, .slice pa pl pc]] W fun e W' => e = .returned (.bool true) ∧ Below W.heap.size W W' := by
  have hlb := hl
  simp only [lightB, Bool.and_eq_true, decide_eq_true_eq] at hlb
  have e1 : ll = l.length := by obtain ⟨_, _, he, _⟩ := reads_slice hlr.1; simp at he; exact he.2.1
  have e2 : ql = rec.length := by obtain ⟨_, _, he, _⟩ := reads_slice hrec.1; simp at he; exact he.2.1
  have e3 : pl = ps.length := by obtain ⟨_, _, he, _⟩ := reads_slice hps.1; simp at he; exact he.2.1
  have HSP : Hid (rec.length ≤ 1000 ∧ ll = l.length ∧ l.length ≤ 400 ∧ pl ≤ 100) := Lib.hid (by omega)
  have HPN : Hid (pl = ps.length) := Lib.hid e3
  have HRL : Hid (rec.length ≤ 1000) := Lib.hid HSP.out.1
  obtain ⟨i0, hi, hz0, hz1, hz2⟩ := info_parts mem.info32
  have HI0 : Hid (Try.prog.info? 22 = some i0 ∧ i0.zero = some (.int .u32 0) ∧ i0.size = 1 ∧ i0.bytes = 4) := Lib.hid ⟨hi, hz0, hz1, hz2⟩
  obtain ⟨bb, off, hix, hcell, hown⟩ := reads_index (P := Try.prog) Try.underlying32 szPoke hps.1
  have HX := Lib.hid hix
  have HCE := Lib.hid hcell
  have HPW := Lib.hid hps.2
  have HL := Lib.hid hl
  have HOBJ := Lib.hid hO
  have HREC := Lib.hid hrec
  have HLR := Lib.hid hlr
  have HBY := Lib.hid hbeg
  have HRG := Lib.hid hR
  have HKK := Lib.hid hk
  have HSH := Lib.hid hsh
  have HREL := Lib.hid hrel
  have HINV : Hid (L.inv ({ k := k, w := w, s := s, c := c, st := st, ia := ia, il := il, ic := ic, wr := wri, ra := ra, rl := rl, rc := rc, op := op, reader := rd_, phase := 0, i := 0, tries := 0, a := 0, b := 0, used := 0, m := .pointer none, base := at_, size := rop.sizeI k w s c st il rl, code := 0, steps := 0, over := false } : Core)) := Lib.hid (L.start hsh hR ⟨rfl, rfl, rfl, rfl, rfl, rfl⟩)
  clear hl hO hk hR hbeg hrec hlr hps hsh hrel hlb e1 e2 e3 hi hz0 hz1 hz2 hix hcell hown
  have HBX : Hid (Blk (W.alloc (.cells #[.int .i64 k, .int .i64 w, .int .i64 s, .int .i64 c, .int .u32 st, .slice ia il ic, .int .i64 wri, .slice ra rl rc, .int .i64 at_, .int .i64 op, .int .i64 rd_, .slice qa ql qc, .slice la ll lc, .slice pa pl pc] 34)) W.heap.size #[.int .i64 k, .int .i64 w, .int .i64 s, .int .i64 c, .int .u32 st, .slice ia il ic, .int .i64 wri, .slice ra rl rc, .int .i64 at_, .int .i64 op, .int .i64 rd_, .slice qa ql qc, .slice la ll lc, .slice pa pl pc] 34) := Lib.hid (Blk.new W _ _)
  have HCA : Hid (Chg [] W (W.alloc (.cells #[.int .i64 k, .int .i64 w, .int .i64 s, .int .i64 c, .int .u32 st, .slice ia il ic, .int .i64 wri, .slice ra rl rc, .int .i64 at_, .int .i64 op, .int .i64 rd_, .slice qa ql qc, .slice la ll lc, .slice pa pl pc] 34))) := Lib.hid ((Chg.refl _ _).alloc _)
  have HCC : Hid (Chg [] (W.alloc (.cells #[.int .i64 k, .int .i64 w, .int .i64 s, .int .i64 c, .int .u32 st, .slice ia il ic, .int .i64 wri, .slice ra rl rc, .int .i64 at_, .int .i64 op, .int .i64 rd_, .slice qa ql qc, .slice la ll lc, .slice pa pl pc] 34)) (W.alloc (.cells #[.int .i64 k, .int .i64 w, .int .i64 s, .int .i64 c, .int .u32 st, .slice ia il ic, .int .i64 wri, .slice ra rl rc, .int .i64 at_, .int .i64 op, .int .i64 rd_, .slice qa ql qc, .slice la ll lc, .slice pa pl pc] 34))) := Lib.hid (Chg.refl _ _)
  go_enter Try.func4, Try.ntmps4
  go_wp2_with (first
    | (go_at_call 17; refine (Light_any k w s c st ia il ic wri ra rl rc at_ op rd_ qa ql qc la ll lc pa pl pc _).mono ?_; rintro e wx ⟨rfl, hcx⟩; rw [HL.out]; have HCC := Lib.hid (HCC.out.trans hcx); have HBX := Lib.hid (HBX.out.keep hcx (by simp)); clear hcx; have e0 : wx.cell? ⟨W.heap.size, 0, none⟩ = some (.int .i64 k) := HBX.out.cell rfl; have e1 : wx.cell? ⟨W.heap.size, 1, none⟩ = some (.int .i64 w) := HBX.out.cell rfl; have e2 : wx.cell? ⟨W.heap.size, 2, none⟩ = some (.int .i64 s) := HBX.out.cell rfl; have e3 : wx.cell? ⟨W.heap.size, 3, none⟩ = some (.int .i64 c) := HBX.out.cell rfl; have e4 : wx.cell? ⟨W.heap.size, 4, none⟩ = some (.int .u32 st) := HBX.out.cell rfl; have e5 : wx.cell? ⟨W.heap.size, 5, none⟩ = some (.slice ia il ic) := HBX.out.cell rfl; have e6 : wx.cell? ⟨W.heap.size, 6, none⟩ = some (.int .i64 wri) := HBX.out.cell rfl; have e7 : wx.cell? ⟨W.heap.size, 7, none⟩ = some (.slice ra rl rc) := HBX.out.cell rfl; have e8 : wx.cell? ⟨W.heap.size, 8, none⟩ = some (.int .i64 at_) := HBX.out.cell rfl; have e9 : wx.cell? ⟨W.heap.size, 9, none⟩ = some (.int .i64 op) := HBX.out.cell rfl; have e10 : wx.cell? ⟨W.heap.size, 10, none⟩ = some (.int .i64 rd_) := HBX.out.cell rfl; have e11 : wx.cell? ⟨W.heap.size, 11, none⟩ = some (.slice qa ql qc) := HBX.out.cell rfl; have e12 : wx.cell? ⟨W.heap.size, 12, none⟩ = some (.slice la ll lc) := HBX.out.cell rfl; have e13 : wx.cell? ⟨W.heap.size, 13, none⟩ = some (.slice pa pl pc) := HBX.out.cell rfl)
    | (go_at_call 18; refine (ref.rBegin_ok k w s c st ia il ic wri ra rl rc at_ op rd_ _ rec _ (HREC.out.chg (HCA.out.trans HCC.out)) HRL.out HOBJ.out HBY.out).mono ?_; rintro e wc ⟨ry, vy, rfl, hb, ho, hv, hxb, hcx⟩; have HR0 : Hid (rop.RAt wc ry ({ k := k, w := w, s := s, c := c, st := st, ia := ia, il := il, ic := ic, wr := wri, ra := ra, rl := rl, rc := rc, at_ := at_, op := op, reader := rd_, row := 0, i := 0, tries := 0, code := 0, steps := 0, a := 0, b := 0, u := fun _ => false, rcd := vy, over := false } : rop.ROp)) := Lib.hid hb; have HZ0 : Hid (OwnW wc (W.alloc (.cells #[.int .i64 k, .int .i64 w, .int .i64 s, .int .i64 c, .int .u32 st, .slice ia il ic, .int .i64 wri, .slice ra rl rc, .int .i64 at_, .int .i64 op, .int .i64 rd_, .slice qa ql qc, .slice la ll lc, .slice pa pl pc] 34)).heap.size vy rec) := Lib.hid (own_base ho HCC.out.size); have HY0 := Lib.hid hv; have HY1 : Hid ((W.alloc (.cells #[.int .i64 k, .int .i64 w, .int .i64 s, .int .i64 c, .int .u32 st, .slice ia il ic, .int .i64 wri, .slice ra rl rc, .int .i64 at_, .int .i64 op, .int .i64 rd_, .slice qa ql qc, .slice la ll lc, .slice pa pl pc] 34)).heap.size ≤ ry) := Lib.hid (Nat.le_trans HCC.out.size hxb); have HCC := Lib.hid (HCC.out.trans hcx); have HBX := Lib.hid (HBX.out.keep hcx (by simp)); clear hcx hb ho hv hxb e0 e1 e2 e3 e4 e5 e6 e7 e8 e9 e10 e11 e12 e13; have e0 : wc.cell? ⟨W.heap.size, 0, none⟩ = some (.int .i64 k) := HBX.out.cell rfl; have e1 : wc.cell? ⟨W.heap.size, 1, none⟩ = some (.int .i64 w) := HBX.out.cell rfl; have e2 : wc.cell? ⟨W.heap.size, 2, none⟩ = some (.int .i64 s) := HBX.out.cell rfl; have e3 : wc.cell? ⟨W.heap.size, 3, none⟩ = some (.int .i64 c) := HBX.out.cell rfl; have e4 : wc.cell? ⟨W.heap.size, 4, none⟩ = some (.int .u32 st) := HBX.out.cell rfl; have e5 : wc.cell? ⟨W.heap.size, 5, none⟩ = some (.slice ia il ic) := HBX.out.cell rfl; have e6 : wc.cell? ⟨W.heap.size, 6, none⟩ = some (.int .i64 wri) := HBX.out.cell rfl; have e7 : wc.cell? ⟨W.heap.size, 7, none⟩ = some (.slice ra rl rc) := HBX.out.cell rfl; have e8 : wc.cell? ⟨W.heap.size, 8, none⟩ = some (.int .i64 at_) := HBX.out.cell rfl; have e9 : wc.cell? ⟨W.heap.size, 9, none⟩ = some (.int .i64 op) := HBX.out.cell rfl; have e10 : wc.cell? ⟨W.heap.size, 10, none⟩ = some (.int .i64 rd_) := HBX.out.cell rfl; have e11 : wc.cell? ⟨W.heap.size, 11, none⟩ = some (.slice qa ql qc) := HBX.out.cell rfl; have e12 : wc.cell? ⟨W.heap.size, 12, none⟩ = some (.slice la ll lc) := HBX.out.cell rfl; have e13 : wc.cell? ⟨W.heap.size, 13, none⟩ = some (.slice pa pl pc) := HBX.out.cell rfl; have e12a : (wc.alloc (.cells #[] 22)).cell? ⟨W.heap.size, 12, none⟩ = some (.slice la ll lc) := ((Chg.refl [] wc).alloc _).keep e12 (by simp))
    | ((with_reducible show wpList _ _ _ (⟨some 33, _, _, _, _, _⟩ :: _) _ _); refine wpList_append_any (o := ⟨some 33, _, _, _, _, _⟩) _ rfl (.tmp 30) (.tmp 32) 23 rfl wc.heap.size 22 i0 (.int .u32 0) 1 4 Try.underlying23 HI0.out.1 HI0.out.2.1 HI0.out.2.2.1 HI0.out.2.2.2 rfl (by decide) (.slice (some ⟨wc.heap.size, 0, none⟩) 0 0) 0 [] rfl (World.ownsRow_lit wc #[] 0 (Nat.le_refl _) (Nat.zero_le _) rfl) (.slice la ll lc) l.length _ rfl ((HLR.out.chg (HCA.out.trans HCC.out)).1.alloc _) (ints_oneCell _ _) (by have := HSP.out; unfold maxLen; omega) (by have := HSP.out; omega) (by simp) ?_; intro v2 w6 hown2 hg2; simp only [Nat.zero_add, List.nil_append] at hown2; have hc2 : Chg [] wc w6 := ((Chg.refl _ _).alloc _).grown hg2 (by simp [Value.ownBlock]); clear hg2; obtain ⟨a2, cc2, rfl, _⟩ := reads_slice (Reads.of_own hown2 (by decide)); have HO2 : Hid (OwnW w6 wc.heap.size (.slice a2 l.length cc2) l) := Lib.hid hown2; have HC46 := Lib.hid hc2; clear hc2 hown2 e12a e0 e1 e2 e3 e4 e5 e6 e7 e8 e9 e10 e11 e12 e13))
  have HT0 : Hid (ref.Solo (W.alloc (.cells #[.int .i64 k, .int .i64 w, .int .i64 s, .int .i64 c, .int .u32 st, .slice ia il ic, .int .i64 wri, .slice ra rl rc, .int .i64 at_, .int .i64 op, .int .i64 rd_, .slice qa ql qc, .slice la ll lc, .slice pa pl pc] 34)) (.slice a2 l.length cc2) w6 ry ({ k := k, w := w, s := s, c := c, st := st, ia := ia, il := il, ic := ic, wr := wri, ra := ra, rl := rl, rc := rc, at_ := at_, op := op, reader := rd_, row := 0, i := 0, tries := 0, code := 0, steps := 0, a := 0, b := 0, u := fun _ => false, rcd := vy, over := false } : rop.ROp) rec l) := Lib.hid (ref.Solo.make HCC.out HR0.out HZ0.out HY0.out HY1.out HO2.out HC46.out)
  have HIN0 : Hid (K.Shape ({ k := k, w := w, s := s, c := c, st := st, ia := ia, il := il, ic := ic, wr := wri, ra := ra, rl := rl, rc := rc, op := op, reader := rd_, phase := 0, i := 0, tries := 0, a := 0, b := 0, used := 0, m := .pointer none, base := at_, size := rop.sizeI k w s c st il rl, code := 0, steps := 0, over := false } : Core) rec ∧ Rel ({ k := k, w := w, s := s, c := c, st := st, ia := ia, il := il, ic := ic, wr := wri, ra := ra, rl := rl, rc := rc, op := op, reader := rd_, phase := 0, i := 0, tries := 0, a := 0, b := 0, used := 0, m := .pointer none, base := at_, size := rop.sizeI k w s c st il rl, code := 0, steps := 0, over := false } : Core) ({ k := k, w := w, s := s, c := c, st := st, ia := ia, il := il, ic := ic, wr := wri, ra := ra, rl := rl, rc := rc, at_ := at_, op := op, reader := rd_, row := 0, i := 0, tries := 0, code := 0, steps := 0, a := 0, b := 0, u := fun _ => false, rcd := vy, over := false } : rop.ROp) ∧ (0 ≤ (({ k := k, w := w, s := s, c := c, st := st, ia := ia, il := il, ic := ic, wr := wri, ra := ra, rl := rl, rc := rc, op := op, reader := rd_, phase := 0, i := 0, tries := 0, a := 0, b := 0, used := 0, m := .pointer none, base := at_, size := rop.sizeI k w s c st il rl, code := 0, steps := 0, over := false } : Core)).steps ∧ (({ k := k, w := w, s := s, c := c, st := st, ia := ia, il := il, ic := ic, wr := wri, ra := ra, rl := rl, rc := rc, op := op, reader := rd_, phase := 0, i := 0, tries := 0, a := 0, b := 0, used := 0, m := .pointer none, base := at_, size := rop.sizeI k w s c st il rl, code := 0, steps := 0, over := false } : Core)).steps ≤ ((0 : Nat) : Int)) ∧ ((({ k := k, w := w, s := s, c := c, st := st, ia := ia, il := il, ic := ic, wr := wri, ra := ra, rl := rl, rc := rc, op := op, reader := rd_, phase := 0, i := 0, tries := 0, a := 0, b := 0, used := 0, m := .pointer none, base := at_, size := rop.sizeI k w s c st il rl, code := 0, steps := 0, over := false } : Core)).k = k ∧ (({ k := k, w := w, s := s, c := c, st := st, ia := ia, il := il, ic := ic, wr := wri, ra := ra, rl := rl, rc := rc, op := op, reader := rd_, phase := 0, i := 0, tries := 0, a := 0, b := 0, used := 0, m := .pointer none, base := at_, size := rop.sizeI k w s c st il rl, code := 0, steps := 0, over := false } : Core)).w = w ∧ (({ k := k, w := w, s := s, c := c, st := st, ia := ia, il := il, ic := ic, wr := wri, ra := ra, rl := rl, rc := rc, op := op, reader := rd_, phase := 0, i := 0, tries := 0, a := 0, b := 0, used := 0, m := .pointer none, base := at_, size := rop.sizeI k w s c st il rl, code := 0, steps := 0, over := false } : Core)).s = s ∧ (({ k := k, w := w, s := s, c := c, st := st, ia := ia, il := il, ic := ic, wr := wri, ra := ra, rl := rl, rc := rc, op := op, reader := rd_, phase := 0, i := 0, tries := 0, a := 0, b := 0, used := 0, m := .pointer none, base := at_, size := rop.sizeI k w s c st il rl, code := 0, steps := 0, over := false } : Core)).c = c ∧ (({ k := k, w := w, s := s, c := c, st := st, ia := ia, il := il, ic := ic, wr := wri, ra := ra, rl := rl, rc := rc, op := op, reader := rd_, phase := 0, i := 0, tries := 0, a := 0, b := 0, used := 0, m := .pointer none, base := at_, size := rop.sizeI k w s c st il rl, code := 0, steps := 0, over := false } : Core)).st = st ∧ (({ k := k, w := w, s := s, c := c, st := st, ia := ia, il := il, ic := ic, wr := wri, ra := ra, rl := rl, rc := rc, op := op, reader := rd_, phase := 0, i := 0, tries := 0, a := 0, b := 0, used := 0, m := .pointer none, base := at_, size := rop.sizeI k w s c st il rl, code := 0, steps := 0, over := false } : Core)).il = il ∧ (({ k := k, w := w, s := s, c := c, st := st, ia := ia, il := il, ic := ic, wr := wri, ra := ra, rl := rl, rc := rc, op := op, reader := rd_, phase := 0, i := 0, tries := 0, a := 0, b := 0, used := 0, m := .pointer none, base := at_, size := rop.sizeI k w s c st il rl, code := 0, steps := 0, over := false } : Core)).rl = rl ∧ (({ k := k, w := w, s := s, c := c, st := st, ia := ia, il := il, ic := ic, wr := wri, ra := ra, rl := rl, rc := rc, op := op, reader := rd_, phase := 0, i := 0, tries := 0, a := 0, b := 0, used := 0, m := .pointer none, base := at_, size := rop.sizeI k w s c st il rl, code := 0, steps := 0, over := false } : Core)).op = op) ∧ L.inv ({ k := k, w := w, s := s, c := c, st := st, ia := ia, il := il, ic := ic, wr := wri, ra := ra, rl := rl, rc := rc, op := op, reader := rd_, phase := 0, i := 0, tries := 0, a := 0, b := 0, used := 0, m := .pointer none, base := at_, size := rop.sizeI k w s c st il rl, code := 0, steps := 0, over := false } : Core) ∧ core.Rng rec ∧ core.Rng l) := Lib.hid ⟨HSH.out, HREL.out _, ⟨Int.le_refl _, Int.le_refl _⟩, ⟨rfl, rfl, rfl, rfl, rfl, rfl, rfl, rfl⟩, HINV.out, fun z hz => wf_u32 (HREC.out.2 z hz), fun z hz => wf_u32 (HLR.out.2 z hz)⟩
  obtain ⟨x0, hx0⟩ : ∃ x0 : Core, ({ k := k, w := w, s := s, c := c, st := st, ia := ia, il := il, ic := ic, wr := wri, ra := ra, rl := rl, rc := rc, op := op, reader := rd_, phase := 0, i := 0, tries := 0, a := 0, b := 0, used := 0, m := .pointer none, base := at_, size := rop.sizeI k w s c st il rl, code := 0, steps := 0, over := false } : Core) = x0 := ⟨_, rfl⟩
  obtain ⟨z0, hz0⟩ : ∃ z0 : rop.ROp, ({ k := k, w := w, s := s, c := c, st := st, ia := ia, il := il, ic := ic, wr := wri, ra := ra, rl := rl, rc := rc, at_ := at_, op := op, reader := rd_, row := 0, i := 0, tries := 0, code := 0, steps := 0, a := 0, b := 0, u := fun _ => false, rcd := vy, over := false } : rop.ROp) = z0 := ⟨_, rfl⟩
  rw [hz0] at HT0
  rw [hx0, hz0] at HIN0
  clear hx0 hz0 HBX HCC HR0 HZ0 HY0 HY1 HO2 HC46 HSH HREL HINV
  go_wp2_with fail
  go_loopw [6, 8] (fun i _ wr => ∃ (t : Nat) (y : Core) (rc_ ws : List Int) (z : rop.ROp), t ≤ 200 ∧ i = .int .i64 t ∧ Hid (ref.Solo (W.alloc (.cells #[.int .i64 k, .int .i64 w, .int .i64 s, .int .i64 c, .int .u32 st, .slice ia il ic, .int .i64 wri, .slice ra rl rc, .int .i64 at_, .int .i64 op, .int .i64 rd_, .slice qa ql qc, .slice la ll lc, .slice pa pl pc] 34)) (.slice a2 l.length cc2) wr ry z rc_ ws) ∧ Hid (K.Shape y rc_ ∧ Rel y z ∧ (0 ≤ (y).steps ∧ (y).steps ≤ (t : Int)) ∧ ((y).k = k ∧ (y).w = w ∧ (y).s = s ∧ (y).c = c ∧ (y).st = st ∧ (y).il = il ∧ (y).rl = rl ∧ (y).op = op) ∧ L.inv y ∧ core.Rng rc_ ∧ core.Rng ws ∧ (ws).length = l.length)) (fun i _ _ => 200 - (intOf i).toNat)
  case atStart => exact ⟨0, x0, rec, l, z0, by omega, rfl, HT0, Lib.hid ⟨HIN0.out.1, HIN0.out.2.1, HIN0.out.2.2.1, HIN0.out.2.2.2.1, HIN0.out.2.2.2.2.1, HIN0.out.2.2.2.2.2.1, HIN0.out.2.2.2.2.2.2, rfl⟩⟩
  case round =>
    obtain ⟨t, y, rc_, ws, z, ht, rfl, HD, HIN⟩ := hrel
    clear HT0 HIN0
    have k9 : IntKind.i64.wrap ((t : Int) + 1) = (t : Int) + 1 := by rw [IntKind.wrap_i64]; omega
    by_cases c2 : t < 200
    · have c2I : (t : Int) < 200 := by omega
      have HLT := Lib.hid c2
      clear ht c2
      obtain ⟨wo, rfl⟩ : ∃ wo : World, wo = wr := ⟨_, rfl⟩
      have HB : Hid (Blk wo W.heap.size #[.int .i64 k, .int .i64 w, .int .i64 s, .int .i64 c, .int .u32 st, .slice ia il ic, .int .i64 wri, .slice ra rl rc, .int .i64 at_, .int .i64 op, .int .i64 rd_, .slice qa ql qc, .slice la ll lc, .slice pa pl pc] 34) := Lib.hid ((Blk.new W _ _).keep HD.out.chg (by simp))
      have e13 : wo.cell? ⟨W.heap.size, 13, none⟩ = some (.slice pa pl pc) := HB.out.cell rfl
      go_wp2_with fail
      go_loopw [8, 41] (fun _ i wr => ∃ j : Nat, j ≤ pl ∧ i = .int .i64 j ∧ Hid (ref.Solo (W.alloc (.cells #[.int .i64 k, .int .i64 w, .int .i64 s, .int .i64 c, .int .u32 st, .slice ia il ic, .int .i64 wri, .slice ra rl rc, .int .i64 at_, .int .i64 op, .int .i64 rd_, .slice qa ql qc, .slice la ll lc, .slice pa pl pc] 34)) (.slice a2 l.length cc2) wr ry z rc_ (pokeL t (ps.take j) ws))) (fun _ i _ => pl - (intOf i).toNat)
      case atStart => exact ⟨0, Nat.zero_le _, rfl, HD⟩
      case round =>
        obtain ⟨j, hj, rfl, HJ⟩ := hrel
        clear HD HB e13
        by_cases hlt : j < pl
        · have HLJ := Lib.hid hlt
          have g1 := HX.out j (by have := HPN.out; omega)
          obtain ⟨⟨pt, pp, pw⟩, hpk⟩ : ∃ p, ps[j]? = some p := ⟨_, List.getElem?_eq_getElem (by have := HPN.out; omega)⟩
          have hcw : Chg [] W wr := HCA.out.trans HJ.out.chg
          have q0 := hcw.keep (HCE.out (j * 3 + 0) _ (by rw [flatMap_get Poke.cells 3 (fun _ => rfl) ps j 0 (by decide) _ hpk]; rfl)) (by simp)
          have q1 := hcw.keep (HCE.out (j * 3 + 1) _ (by rw [flatMap_get Poke.cells 3 (fun _ => rfl) ps j 1 (by decide) _ hpk]; rfl)) (by simp)
          have q2 := hcw.keep (HCE.out (j * 3 + 2) _ (by rw [flatMap_get Poke.cells 3 (fun _ => rfl) ps j 2 (by decide) _ hpk]; rfl)) (by simp)
          rw [Nat.add_zero] at q0
          rw [← Nat.add_assoc] at q1 q2
          have HSU := Lib.hid (pokeL_succ (t : Int) ps ws j _ hpk)
          have HWF := Lib.hid (HPW.out _ (List.mem_of_getElem? hpk)).2.2
          have hj100 : (j : Int) < 100 := by have := HSP.out; omega
          have HWL : Hid ((pokeL t (ps.take j) ws).length = l.length) := Lib.hid ((pokeL_length _ _ _).trans HIN.out.2.2.2.2.2.2.2)
          obtain ⟨wj, hwj⟩ : ∃ wj, pokeL t (ps.take j) ws = wj := ⟨_, rfl⟩
          rw [hwj] at HJ HSU HWL
          clear hwj hpk hj hlt hcw
          have k8 : IntKind.i64.wrap ((j : Int) + 1) = (j : Int) + 1 := by rw [IntKind.wrap_i64]; omega
          by_cases hall : pt = (t : Int) ∧ 0 ≤ pp ∧ pp < (l.length : Int)
          · obtain ⟨c1, c2, c3⟩ := hall
            have b1 : (pt == (t : Int)) = true := by simpa using c1
            have b2 : decide (0 ≤ pp) = true := by simpa using c2
            have b3 : decide (pp < (l.length : Int)) = true := by simpa using c3
            have HSU2 : Hid (pokeL t (ps.take (j + 1)) ws = wj.set pp.toNat pw) := Lib.hid (by
              rw [HSU.out]; unfold pokeOne; rw [HWL.out, if_pos ⟨c1, c2, c3⟩])
            obtain ⟨pN, hpN⟩ : ∃ pN : Nat, pp = (pN : Int) := ⟨pp.toNat, by omega⟩
            subst hpN
            have hlow : pN < l.length := by omega
            obtain ⟨g, hg⟩ : ∃ g, a2 = some ⟨g, 0, none⟩ := by
              rcases HJ.out.row.2 with ⟨he, h0⟩ | ⟨g, cap, cur, he, _⟩
              · have := HWL.out; simp at h0; subst h0; simp at this; omega
              · simp at he; exact ⟨g, he.1⟩
            subst hg
            have HJ2 : Hid (ref.Solo (W.alloc (.cells #[.int .i64 k, .int .i64 w, .int .i64 s, .int .i64 c, .int .u32 st, .slice ia il ic, .int .i64 wri, .slice ra rl rc, .int .i64 at_, .int .i64 op, .int .i64 rd_, .slice qa ql qc, .slice la ll lc, .slice pa pl pc] 34)) (.slice (some ⟨g, 0, none⟩) wj.length cc2) wr ry z rc_ wj) := Lib.hid (by have := HJ.out; rwa [← HWL.out] at this)
            have eg : wr.cell? ⟨g, pN, none⟩ = some (.int .u32 (wj.getD pN 0)) := by
              have hw := HWL.out
              have := World.ownsRow.cellAt HJ2.out.row pN (by omega)
              rw [this, List.getElem?_map, List.getElem?_eq_getElem (by omega)]
              simp [List.getD, (by omega : pN < wj.length)]
            have fg := World.ownsRow.frozenAt HJ2.out.row pN
            have HPA : Hid (Chg [] wr (wr.alloc (.cells #[.int .i64 pt, .int .i64 (pN : Int), .int .u32 pw] 41))) := Lib.hid ((Chg.refl _ _).alloc _)
            have hgl : g < wr.heap.size := World.block_lt_of_cell? wr ⟨g, pN, none⟩ eg
            have fg2 : (wr.alloc (.cells #[.int .i64 pt, .int .i64 (pN : Int), .int .u32 pw] 41)).frozen? ⟨g, pN, none⟩ = false := by rw [HPA.out.frozen hgl (by simp)]; exact fg
            have eg2 : (wr.alloc (.cells #[.int .i64 pt, .int .i64 (pN : Int), .int .u32 pw] 41)).cell? ⟨g, pN, none⟩ = some (.int .u32 (wj.getD pN 0)) := HPA.out.keep eg (by simp)
            have hgl2 : ¬ wr.heap.size = g := by omega
            have hgl3 : ¬ g = wr.heap.size := by omega
            clear eg fg
            have hlowI : (pN : Int) < (l.length : Int) := by omega
            clear c1 c2 c3
            go_wp2_with fail
            have hltj := HLJ.out
            go_roundw
            case rel =>
              refine ⟨j + 1, by omega, by go_num, Lib.hid ?_⟩
              rw [HSU2.out]
              have h2 := (HJ2.out.put pN pw).keep ((Chg.refl [] _).alloc (.cells #[.int .i64 pt, .int .i64 (pN : Int), .int .u32 pw] 41))
              rw [HWL.out] at h2
              exact h2
            case measure => simp [intOf]; omega
          · have hcase : ((pt == (t : Int)) = false) ∨ ((pt == (t : Int)) = true ∧ decide (0 ≤ pp) = false) ∨ ((pt == (t : Int)) = true ∧ decide (0 ≤ pp) = true ∧ decide (pp < (l.length : Int)) = false) := by
              by_cases c1 : pt = (t : Int)
              · by_cases c2 : 0 ≤ pp
                · exact .inr (.inr ⟨by simpa using c1, by simpa using c2, by simp; omega⟩)
                · exact .inr (.inl ⟨by simpa using c1, by simpa using c2⟩)
              · exact .inl (by simpa using c1)
            have HSU3 : Hid (pokeL t (ps.take (j + 1)) ws = wj) := Lib.hid (by
              rw [HSU.out]; unfold pokeOne; rw [HWL.out]; exact if_neg hall)
            clear hall
            rcases hcase with h1 | ⟨h1, h2⟩ | ⟨h1, h2, h3⟩
            all_goals
              go_wp2_with fail
              have hltj := HLJ.out
              go_roundw
              case rel => exact ⟨j + 1, by omega, by go_num, Lib.hid (by rw [HSU3.out]; exact HJ.out.keep ((Chg.refl _ _).alloc _))⟩
              case measure => simp [intOf]; omega
        · obtain rfl : pl = j := by omega
          clear hlt hj
          have HD : Hid (ref.Solo (W.alloc (.cells #[.int .i64 k, .int .i64 w, .int .i64 s, .int .i64 c, .int .u32 st, .slice ia il ic, .int .i64 wri, .slice ra rl rc, .int .i64 at_, .int .i64 op, .int .i64 rd_, .slice qa ql qc, .slice la ll lc, .slice pa pl pc] 34)) (.slice a2 l.length cc2) wr ry z rc_ (pokeL t ps ws)) := Lib.hid (by have h1 := HJ.out; rwa [show ps.take pl = ps from by rw [HPN.out, List.take_length]] at h1)
          clear HJ
          have HPL : Hid ((pokeL t ps ws).length = l.length) := Lib.hid ((pokeL_length _ _ _).trans HIN.out.2.2.2.2.2.2.2)
          have HPR : Hid (core.Rng (pokeL t ps ws)) := Lib.hid (core.Rng.poke HPW.out _ HIN.out.2.2.2.2.2.2.1)
          obtain ⟨wp, hwp⟩ : ∃ wp, pokeL t ps ws = wp := ⟨_, rfl⟩
          rw [hwp] at HD HPL HPR
          clear hwp
          cases hop : opens y wp.length
          · have HOP := Lib.hid hop
            clear hop
            go_wp2_with (first
              | (go_at_call 19; refine (ref.Solo.stay H HD.out HIN.out.1 HIN.out.2.1 HOP.out (by have h1 := HPL.out; have h2 := HSP.out; omega) HPL.out.symm).mono ?_; rintro e w9 ⟨rfl, hx⟩; have HD9 := Lib.hid (HD.out.keep hx); clear hx)
              | (go_at_call 9; refine (awakeB_any _).mono ?_; rintro e wz ⟨rfl, hcz⟩; have HZ := Lib.hid hcz; clear hcz))
            go_ret
            exact ⟨rfl, (HCA.out.trans (HD9.out.chg.trans HZ.out)).below⟩
          · have HOP := Lib.hid hop
            clear hop
            obtain ⟨g2, hg2⟩ : ∃ g, a2 = some ⟨g, 0, none⟩ := by
              have h1 := opens_fit HOP.out
              have hne : 0 < wp.length := by
                have h5 := HOP.out
                have h6 := HRM HIN.out.1
                omega
              obtain ⟨g, cp, he, _⟩ := ref.own_some HD.out.row hne
              exact ⟨g, by simp at he; exact he.1⟩
            subst hg2
            obtain ⟨q, hq⟩ : ∃ q, K.step y (.pointer none) rc_ wp = q := ⟨_, rfl⟩
            have HQ := Lib.hid hq
            clear hq
            go_wp2_with (go_at_call 19; refine (ref.Solo.step H (.pointer none) HD.out HIN.out.1 HIN.out.2.1 HOP.out (by have h1 := HIN.out; have h2 := HLT.out; omega) (by have h1 := HPL.out; have h2 := HSP.out; omega) HPR.out).mono ?_; rintro e w9 ⟨rfl, z9, hrel9, hd9⟩; rw [HQ.out] at hrel9 hd9; have HRE := Lib.hid hrel9; have HD9 := Lib.hid hd9; clear hrel9 hd9)
            have HFIT : Hid (q.1.steps ≤ afterI k w s c st il rl op q.1.tries) := Lib.hid (by
              have h1 := HIN.out
              obtain ⟨f0, f1, f2, f3, f4, f5, f6, f7⟩ := h1.2.2.2.1
              have hrc : core.rightC kk y := by unfold core.rightC; rw [f1, f2, f3, f4, f5, f6]; exact HRG.out
              have h2 := L.fits (.pointer none) h1.1 (opens_over HOP.out) HPR.out hrc h1.2.2.2.2.1
              rw [HQ.out] at h2
              unfold core.afterC at h2
              rw [f1, f2, f3, f4, f5, f6, f7] at h2
              rw [HKK.out]
              exact h2)
            have HAF := Lib.hid (fun u => bAfter_any k w s c st ia il ic wri ra rl rc op q.1.tries HOBJ.out u)
            obtain ⟨av, hav⟩ : ∃ av, afterI k w s c st il rl op q.1.tries = av := ⟨_, rfl⟩
            rw [hav] at HFIT HAF
            clear hav
            have HB : Hid (Blk w9 W.heap.size #[.int .i64 k, .int .i64 w, .int .i64 s, .int .i64 c, .int .u32 st, .slice ia il ic, .int .i64 wri, .slice ra rl rc, .int .i64 at_, .int .i64 op, .int .i64 rd_, .slice qa ql qc, .slice la ll lc, .slice pa pl pc] 34) := Lib.hid ((Blk.new W _ _).keep HD9.out.chg (by simp))
            have eS0 : w9.cell? ⟨ry, 15, none⟩ = some (.int .i64 q.1.steps) := by rw [← H.steps HRE.out]; exact HD9.out.box.cell rfl
            have eS1 : w9.cell? ⟨ry, 13, none⟩ = some (.int .i64 q.1.tries) := by rw [← HT HRE.out]; exact HD9.out.box.cell rfl
            have eS2 : w9.cell? ⟨W.heap.size, 9, none⟩ = some (.int .i64 op) := HB.out.cell rfl
            obtain ⟨sN, hsN⟩ : ∃ sN, q.1.steps = sN := ⟨_, rfl⟩
            obtain ⟨tN, htN⟩ : ∃ tN, q.1.tries = tN := ⟨_, rfl⟩
            have HSN := Lib.hid hsN
            rw [hsN] at eS0 HFIT
            rw [htN] at eS1 HAF
            clear hsN htN
            have KEEP := Lib.hid (fun (V : World) (h : Chg [] w9 V) => (⟨h.keep eS0 (by simp), h.keep eS1 (by simp), h.keep eS2 (by simp), Lib.hid h⟩ : (fun V : World => V.cell? ⟨ry, 15, none⟩ = some (.int .i64 sN) ∧ V.cell? ⟨ry, 13, none⟩ = some (.int .i64 tN) ∧ V.cell? ⟨W.heap.size, 9, none⟩ = some (.int .i64 op) ∧ Hid (Chg [] w9 V)) V))
            clear eS0 eS1 eS2
            have hHeld : (fun V : World => V.cell? ⟨ry, 15, none⟩ = some (.int .i64 sN) ∧ V.cell? ⟨ry, 13, none⟩ = some (.int .i64 tN) ∧ V.cell? ⟨W.heap.size, 9, none⟩ = some (.int .i64 op) ∧ Hid (Chg [] w9 V)) (World.drew w9) := KEEP.out _ (Chg.refl _ _).drew
            refine wp_region_plan (fun V : World => V.cell? ⟨ry, 15, none⟩ = some (.int .i64 sN) ∧ V.cell? ⟨ry, 13, none⟩ = some (.int .i64 tN) ∧ V.cell? ⟨W.heap.size, 9, none⟩ = some (.int .i64 op) ∧ Hid (Chg [] w9 V)) [(0, true, some 72), (1, true, some 73), (2, true, some 74), (3, true, some 75), (4, true, some 76), (5, true, some 77), (6, true, some 78), (7, true, some 79), (8, true, some 80), (9, true, some 81), (10, true, some 82), (11, true, some 83), (12, false, some 84), (13, true, some 85)] (by kernel_rfl) (by kernel_rfl) (by kernel_rfl) (by kernel_rfl) (fun d c a v w h => by cases d <;> exact h) hHeld ?_
            repeat (refine planWp_read (v := ?_) rfl rfl ?_ ?_ ?_; rotate_left; (focus rfl); (focus (intro u hSw; (try dsimp only at hSw); go_simp; (try with_reducible rfl); done)); (try simp only [Act.put, List.setIfInBounds_toArray, List.set_cons_zero, List.set_cons_succ]))
            refine planWp_load (v := .agg #[.int .i64 k, .int .i64 w, .int .i64 s, .int .i64 c, .int .u32 st, .slice ia il ic, .int .i64 wri, .slice ra rl rc]) rfl rfl ?_ 26 (.tmp 76) rfl (.pointer (some ⟨W.heap.size, 0, none⟩)) rfl (fun u hu => run_loadAt_mid u W.heap.size 0 26 [.int .i64 k, .int .i64 w, .int .i64 s, .int .i64 c, .int .u32 st, .slice ia il ic, .int .i64 wri, .slice ra rl rc] _ (fun j v hj => by rw [Nat.zero_add]; exact hu.2.2.2.out.keep (HB.out.cell (by rcases j with _ | _ | _ | _ | _ | _ | _ | _ | j <;> first | exact hj | simp at hj)) (by simp)) Try.underlying26 rfl objSize) ?_
            · rfl
            try simp only [Act.put, List.setIfInBounds_toArray, List.set_cons_zero, List.set_cons_succ]
            repeat (refine planWp_read (v := ?_) rfl rfl ?_ ?_ ?_; rotate_left; (focus rfl); (focus (intro u hSw; (try dsimp only at hSw); go_simp; (try with_reducible rfl); done)); (try simp only [Act.put, List.setIfInBounds_toArray, List.set_cons_zero, List.set_cons_succ]))
            refine planWp_do rfl rfl ?_ (fun K hK => ?_)
            · rfl
            go_simp
            go_wp2_with (go_at_call 10; refine (HAF.out _).mono ?_; rintro e wx ⟨rfl, hcx⟩; have HCX := Lib.hid (Chg.trans hHeld.2.2.2.out hcx); clear hcx)
            refine hK.out _ _ (KEEP.out _ HCX.out) (fun hHeld2 => ?_)
            clear hK K hHeld
            try simp only [Act.put, List.setIfInBounds_toArray, List.set_cons_zero, List.set_cons_succ]
            repeat (refine planWp_read (v := ?_) rfl rfl ?_ ?_ ?_; rotate_left; (focus rfl); (focus (intro u hSw; (try dsimp only at hSw); go_simp; (try with_reducible rfl); done)); (try simp only [Act.put, List.setIfInBounds_toArray, List.set_cons_zero, List.set_cons_succ]))
            refine planWp_nil ?_
            have hHeld := hHeld2
            clear hHeld2
            have hf0 : ¬ sN > av := by have := HFIT.out; omega
            have hf1 : ¬ av < sN := by have := HFIT.out; omega
            have hf2 : decide (sN > av) = false := by simpa using HFIT.out
            go_wp2_with fail
            have c3 := HLT.out
            go_roundw
            case rel =>
              have h1 := HIN.out
              have hov := opens_over HOP.out
              have hok := K.ok (.pointer none) h1.1 hov HPR.out
              have hst := L.same y (.pointer none) rc_ wp
              have hrc : core.rightC kk y := by
                obtain ⟨f0, f1, f2, f3, f4, f5, f6, f7⟩ := h1.2.2.2.1
                unfold core.rightC; rw [f1, f2, f3, f4, f5, f6]; exact HRG.out
              have hnx := L.next (.pointer none) h1.1 hov HPR.out hrc h1.2.2.2.2.1
              have hrg := R (.pointer none) h1.1 hov h1.2.2.2.2.2.1 HPR.out
              have hln := K.len y (.pointer none) rc_ wp
              rw [HQ.out] at hok hst hnx hrg hln
              obtain ⟨f0, f1, f2, f3, f4, f5, f6, f7⟩ := h1.2.2.2.1
              refine ⟨t + 1, q.1, q.2.1, q.2.2, z9, by omega, by go_num, Lib.hid (HD9.out.keep hHeld.2.2.2.out), Lib.hid ⟨hok.1, HRE.out, by rw [hok.2.2.1]; omega, ⟨hst.1.trans f0, hst.2.1.trans f1, hst.2.2.1.trans f2, hst.2.2.2.1.trans f3, hst.2.2.2.2.1.trans f4, hst.2.2.2.2.2.1.trans f5, hst.2.2.2.2.2.2.1.trans f6, hst.2.2.2.2.2.2.2.1.trans f7⟩, hnx, hrg.1, hrg.2, hln.trans HPL.out⟩⟩
            case measure => simp [intOf]; omega
    · have c2I : ¬ (t : Int) < 200 := by omega
      clear ht c2
      go_wp2_with (go_at_call 9; refine (awakeB_any _).mono ?_; rintro e wz ⟨rfl, hcz⟩; have HZ := Lib.hid hcz; clear hcz)
      go_ret
      exact ⟨rfl, (HCA.out.trans (HD.out.chg.trans HZ.out)).below⟩
theorem own : ownKnob Try.prog.godebug = none := by kernel_rfl
theorem laidOut : laidOutB Try.prog = true := by kernel_rfl

/-- The walk: the law returns true, and nothing that was there has turned. -/
theorem walk (w : World) (cs0 : Array Value) (hs0 : cs0.size = Try.prog.cellsOf 34) (o0 : kit.Opens Try.prog w 9 34 cs0.toList) :
    Calls Try.prog 4 #[.agg cs0] w fun e w' => e = .returned (.bool true) ∧ Below w.heap.size w w' := by
  set_option maxRecDepth 100000 in
  obtain ⟨k, wq, s, c, st, ia, il, ic, wri, ra, rl, rc, at_, op, rd_, qa, ql, qc, la, ll, lc, pa, pl, pc, hcs, hb, hat, hop, hrd, ⟨ini, hini⟩, ⟨rec, hrec⟩, ⟨l, hl⟩, ⟨ps, hps⟩⟩ := case_open (n := 4) o0
  have hcs2 : cs0 = #[.int .i64 k, .int .i64 wq, .int .i64 s, .int .i64 c, .int .u32 st, .slice ia il ic, .int .i64 wri, .slice ra rl rc, .int .i64 at_, .int .i64 op, .int .i64 rd_, .slice qa ql qc, .slice la ll lc, .slice pa pl pc] := by
    apply Array.toList_inj.1; rw [hcs]
  subst hcs2
  cases hL : lightB il rl ql ll pl
  · exact big k wq s c st ia il ic wri ra rl rc at_ op rd_ qa ql qc la ll lc pa pl pc hL w
  · have hL2 := hL
    simp only [lightB, Bool.and_eq_true, decide_eq_true_eq] at hL2
    have hO := hb hL2.1.1.1.1 hL2.1.1.1.2
    by_cases hB : begI wq rl (rop.sizeI k wq s c st il rl) at_ op rd_ (writesI k) (readsI k) rec.length = 0
    · obtain ⟨hR, hk⟩ := hold.begun hB
      rcases hk with rfl | rfl | rfl | rfl | rfl | rfl
      · exact run ref.tiesF core.lastsF core.rangedF hold.roomF hold.triesF 1 wq s c st ia il ic wri ra rl rc at_ op rd_ qa ql qc la ll lc pa pl pc rec l ps w hL hO rfl hR hB hrec hl hps (hold.shapeF hR hB) (fun vy => hold.relF hO hR hB hat.2 vy)
      · exact run ref.tiesN core.lastsN core.rangedN hold.roomN hold.triesN 2 wq s c st ia il ic wri ra rl rc at_ op rd_ qa ql qc la ll lc pa pl pc rec l ps w hL hO rfl hR hB hrec hl hps (hold.shapeN hR hB) (fun vy => hold.relN hO hR hB hat.2 vy)
      · exact run ref.tiesS core.lastsS core.rangedS hold.roomS hold.triesS 3 wq s c st ia il ic wri ra rl rc at_ op rd_ qa ql qc la ll lc pa pl pc rec l ps w hL hO rfl hR hB hrec hl hps (hold.shapeS hR hB) (fun vy => hold.relS hO hR hB hat.2 vy)
      · exact run ref.tiesG core.lastsG core.rangedG hold.roomG hold.triesG 4 wq s c st ia il ic wri ra rl rc at_ op rd_ qa ql qc la ll lc pa pl pc rec l ps w hL hO rfl hR hB hrec hl hps (hold.shapeG hR hB) (fun vy => hold.relG hO hR hB hat.2 vy)
      · exact run ref.tiesC core.lastsC core.rangedC hold.roomC hold.triesC 5 wq s c st ia il ic wri ra rl rc at_ op rd_ qa ql qc la ll lc pa pl pc rec l ps w hL hO rfl hR hB hrec hl hps (hold.shapeC hR hB) (fun vy => hold.relC hO hR hB hat.2 vy)
      · exact run ref.tiesH core.lastsH core.rangedH hold.roomH hold.triesH 6 wq s c st ia il ic wri ra rl rc at_ op rd_ qa ql qc la ll lc pa pl pc rec l ps w hL hO rfl hR hB hrec hl hps (hold.shapeH hR hB) (fun vy => hold.relH hO hR hB hat.2 vy)
    · exact none_ k wq s c st ia il ic wri ra rl rc at_ op rd_ qa ql qc la ll lc pa pl pc rec hL hO hB w hrec

set_option maxRecDepth 100000 in
theorem lifted (os : Os) (started : os.Started) (H : Type) (enc : TypeId × Value → H) :
    ReturnsInHanded {} Try.checked os 4 .any (Rows.boundHoldsSpec.pre6 enc Try.prog Try.f4 Rows.boundHoldsRow.domain false) (Rows.boundHoldsSpec.post enc Try.prog Try.f4 false true false false) := by
  refine returnsInHanded_of_change (C := Try.checked) own started (by kernel_rfl) Try.func4
    (ChangeSpec.witness6 (enc := enc) (C := Try.checked) false ⟨#[], #[.agg #[.int .i64 0, .int .i64 0, .int .i64 0, .int .i64 0, .int .u32 0, .slice none 0 0, .int .i64 0, .slice none 0 0, .int .i64 0, .int .i64 0, .int .i64 0, .slice none 0 0, .slice none 0 0, .slice none 0 0]], []⟩ 8 (by kernel_rfl) (by kernel_rfl) (by kernel_rfl) (by kernel_rfl)) ?_
  intro W base args ds gs before hval0 hW hcnd _
  have hval : ∀ (j : Nat) t v, Try.f4.params[j]? = some t → args[j]? = some v → Value.okWide Try.prog W .any base t v := hval0
  have hW' := hW
  obtain ⟨p, q, hA0, hV, rfl, hfz, hnd⟩ := hW
  have hA : DataW.TrodAll enc Try.prog W 0 (fun _ => true) true Try.f4.params.toList args.toList ds p := hA0
  rw [Try.params4] at hA hval
  obtain ⟨v0, vs0, d0, ds0, p0, q0, hargs, rfl, rfl, h0, r0⟩ := trodAll_cons hA
  obtain ⟨rfl, rfl, rfl⟩ := trodAll_nil r0
  obtain rfl : args = #[v0] := by cases args; simp_all
  obtain ⟨rfl, rfl⟩ := trodVars_none hV
  have k0 := h0
  have lt0 : ∀ x ∈ p0, x.block < W.heap.size := by obtain ⟨m, hm⟩ := k0; exact DataW.trod_lt m _ _ _ hm
  obtain ⟨cs0, rfl, hs0⟩ := okWide_struct Try.underlying34 (hval 0 34 v0 rfl rfl)
  have o0 : kit.Opens Try.prog W 9 34 cs0.toList := by simpa [Value.cells] using kit.Trod_opens 9 k0
  clear hA0 hval0
  refine (walk W cs0 hs0 o0).mono fun e W' ⟨he, bel⟩ => ?_
  subst he
  exact ⟨_, rfl, _, _, _, [], _, [], hW', trodAll_mk1 (shut_bool Try.underlying4 _), (trodAll_cons_mk (Below.trod laidOut (by kernel_rfl) (of_decide_eq_true (by kernel_rfl)) k0 bel lt0) trodAll_mk0), rfl, bel.frame _, fun h => by cases h⟩

theorem over : Rows.boundHoldsRow.holds Try.pinned (OpenSpec.ofChange Rows.boundHoldsSpec) :=
  OpenClaim.holds_of_wide 4 Try.f4 rfl rfl rfl rfl rfl rfl rfl ⟨rfl, rfl, rfl, rfl, rfl⟩ rfl rfl rfl rfl rfl (by kernel_rfl) Try.func4 (by kernel_rfl)
    (of_decide_eq_true (by kernel_rfl)) (by unfold Func.isWrapper; first | (rw [if_pos (by decide +kernel)]; kernel_rfl) | (rw [if_neg (by decide +kernel)]; exact ⟨rfl, rfl⟩))
    (fun os started H enc _ => lifted os started H enc)

/-- The statement. -/
theorem proved : Rows.BoundHoldsSaid := over
end Go.Proofs.Ytjplamoofkcojaa.boundHolds
