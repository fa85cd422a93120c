/- The reference's operation is begun, if the object is of that kind. -/
import Derived.Test.YtapaolaemkhbdaaDoorRBeg
import Derived.Test.YtapaolaemkhbdaaDoorCaseA
namespace Go.Proofs.YtapaolaemkhbdaaDoor.ref
open Go Go.RowKit Go.Proofs.YtapaolaemkhbdaaDoor.kit Go.Proofs.YtapaolaemkhbdaaDoor.obj Go.Proofs.YtapaolaemkhbdaaDoor.rop Go.Proofs.YtapaolaemkhbdaaDoor.mem Go.Proofs.YtapaolaemkhbdaaDoor.core
set_option linter.unusedVariables false
set_option linter.unusedSimpArgs false
set_option maxRecDepth 20000

theorem lBegin_kind (k w s c st : Int) (ia : Option Addr) (il ic : Nat) (wri : Int) (ra : Option Addr) (rl rc : Nat) (at_ op rd_ : Int) (qa : Option Addr) (ql qc : Nat) (la : Option Addr) (ll lc : Nat) (pa : Option Addr) (pl pc : Nat) (kd : Int) (hk : k ≠ kd) (W : World) :
    Calls Tryd.prog 43 #[.agg #[.int .i64 k, .int .i64 w, .int .i64 s, .int .i64 c, .int .u32 st, .slice ia il ic, .int .i64 wri, .slice ra rl rc, .int .i64 at_, .int .i64 op, .int .i64 rd_, .slice qa ql qc, .slice la ll lc, .slice pa pl pc], .int .i64 kd] W fun e W' => e = .returned (.tuple #[.pointer none, .int .i64 1]) ∧ Chg [] W W' := by
  have hk1 : (k != kd) = true := by simpa using hk
  have HBX : Hid (Blk (W.alloc (.cells #[.int .i64 k, .int .i64 w, .int .i64 s, .int .i64 c, .int .u32 st, .slice ia il ic, .int .i64 wri, .slice ra rl rc, .int .i64 at_, .int .i64 op, .int .i64 rd_, .slice qa ql qc, .slice la ll lc, .slice pa pl pc] 36)) W.heap.size #[.int .i64 k, .int .i64 w, .int .i64 s, .int .i64 c, .int .u32 st, .slice ia il ic, .int .i64 wri, .slice ra rl rc, .int .i64 at_, .int .i64 op, .int .i64 rd_, .slice qa ql qc, .slice la ll lc, .slice pa pl pc] 36) := Lib.hid (Blk.new W _ _)
  clear hk
  go_enter Tryd.func43, Tryd.ntmps43
  go_wp2_with fail
  go_ret2
  exact ⟨rfl, (Chg.refl _ _).alloc _⟩
set_option maxHeartbeats 2000000 in
theorem lBegin_bad (k w s c st : Int) (ia : Option Addr) (il ic : Nat) (wri : Int) (ra : Option Addr) (rl rc : Nat) (at_ op rd_ : Int) (qa : Option Addr) (ql qc : Nat) (la : Option Addr) (ll lc : Nat) (pa : Option Addr) (pl pc : Nat) (kd : Int) (hk : k = kd) (rec : List Int) (W : World) (hr : ReadsW W (.slice qa ql qc) rec) (h : ObjW k w s c st il rl) (hb : begI w rl (sizeI k w s c st il rl) at_ op rd_ (writesI k) (readsI k) rec.length ≠ 0) :
    Calls Tryd.prog 43 #[.agg #[.int .i64 k, .int .i64 w, .int .i64 s, .int .i64 c, .int .u32 st, .slice ia il ic, .int .i64 wri, .slice ra rl rc, .int .i64 at_, .int .i64 op, .int .i64 rd_, .slice qa ql qc, .slice la ll lc, .slice pa pl pc], .int .i64 kd] W fun e W' => e = .returned (.tuple #[.pointer none, .int .i64 (begI w rl (sizeI k w s c st il rl) at_ op rd_ (writesI k) (readsI k) rec.length)]) ∧ Chg [] W W' := by
  have hk1 : (k != kd) = false := by simp [hk]
  have HBX : Hid (Blk (W.alloc (.cells #[.int .i64 k, .int .i64 w, .int .i64 s, .int .i64 c, .int .u32 st, .slice ia il ic, .int .i64 wri, .slice ra rl rc, .int .i64 at_, .int .i64 op, .int .i64 rd_, .slice qa ql qc, .slice la ll lc, .slice pa pl pc] 36)) W.heap.size #[.int .i64 k, .int .i64 w, .int .i64 s, .int .i64 c, .int .u32 st, .slice ia il ic, .int .i64 wri, .slice ra rl rc, .int .i64 at_, .int .i64 op, .int .i64 rd_, .slice qa ql qc, .slice la ll lc, .slice pa pl pc] 36) := Lib.hid (Blk.new W _ _)
  have HG := Lib.hid (rBegin_bad k w s c st ia il ic wri ra rl rc at_ op rd_ _ rec _ (hr.chg ((Chg.refl _ _).alloc (.cells #[.int .i64 k, .int .i64 w, .int .i64 s, .int .i64 c, .int .u32 st, .slice ia il ic, .int .i64 wri, .slice ra rl rc, .int .i64 at_, .int .i64 op, .int .i64 rd_, .slice qa ql qc, .slice la ll lc, .slice pa pl pc] 36))) h hb)
  generalize hE : begI w rl (sizeI k w s c st il rl) at_ op rd_ (writesI k) (readsI k) rec.length = E at *
  clear hr h hb hE hk
  go_enter Tryd.func43, Tryd.ntmps43
  go_wp2_with (go_at_call 72; refine HG.out.mono ?_; rintro e w1 ⟨rfl, hc⟩; have HC := Lib.hid (((Chg.refl [] W).alloc _).trans hc); clear hc)
  go_ret2
  exact ⟨rfl, HC.out⟩
set_option maxHeartbeats 2000000 in
theorem lBegin_ok (k w s c st : Int) (ia : Option Addr) (il ic : Nat) (wri : Int) (ra : Option Addr) (rl rc : Nat) (at_ op rd_ : Int) (qa : Option Addr) (ql qc : Nat) (la : Option Addr) (ll lc : Nat) (pa : Option Addr) (pl pc : Nat) (kd : Int) (hk : k = kd) (rec : List Int) (W : World) (hr : ReadsW W (.slice qa ql qc) rec) (hrl : rec.length ≤ 1000) (h : ObjW k w s c st il rl) (hb : begI w rl (sizeI k w s c st il rl) at_ op rd_ (writesI k) (readsI k) rec.length = 0) :
    Calls Tryd.prog 43 #[.agg #[.int .i64 k, .int .i64 w, .int .i64 s, .int .i64 c, .int .u32 st, .slice ia il ic, .int .i64 wri, .slice ra rl rc, .int .i64 at_, .int .i64 op, .int .i64 rd_, .slice qa ql qc, .slice la ll lc, .slice pa pl pc], .int .i64 kd] W fun e W' => ∃ bx v, e = .returned (.tuple #[.pointer (some ⟨bx, 0, none⟩), .int .i64 0]) ∧ RAt W' bx ({ k := k, w := w, s := s, c := c, st := st, ia := ia, il := il, ic := ic, wr := wri, ra := ra, rl := rl, rc := rc, at_ := at_, op := op, reader := rd_, row := 0, i := 0, tries := 0, code := 0, steps := 0, a := 0, b := 0, u := fun _ => false, rcd := v, over := false } : ROp) ∧ OwnW W' W.heap.size v rec ∧ (∀ y, v.ownBlock = some y → y ≠ bx) ∧ W.heap.size ≤ bx ∧ Chg [] W W' := by
  have hk1 : (k != kd) = false := by simp [hk]
  have HBX : Hid (Blk (W.alloc (.cells #[.int .i64 k, .int .i64 w, .int .i64 s, .int .i64 c, .int .u32 st, .slice ia il ic, .int .i64 wri, .slice ra rl rc, .int .i64 at_, .int .i64 op, .int .i64 rd_, .slice qa ql qc, .slice la ll lc, .slice pa pl pc] 36)) W.heap.size #[.int .i64 k, .int .i64 w, .int .i64 s, .int .i64 c, .int .u32 st, .slice ia il ic, .int .i64 wri, .slice ra rl rc, .int .i64 at_, .int .i64 op, .int .i64 rd_, .slice qa ql qc, .slice la ll lc, .slice pa pl pc] 36) := Lib.hid (Blk.new W _ _)
  have HG := Lib.hid (rBegin_ok k w s c st ia il ic wri ra rl rc at_ op rd_ _ rec _ (hr.chg ((Chg.refl _ _).alloc (.cells #[.int .i64 k, .int .i64 w, .int .i64 s, .int .i64 c, .int .u32 st, .slice ia il ic, .int .i64 wri, .slice ra rl rc, .int .i64 at_, .int .i64 op, .int .i64 rd_, .slice qa ql qc, .slice la ll lc, .slice pa pl pc] 36))) hrl h hb)
  clear hr h hb hrl hk
  go_enter Tryd.func43, Tryd.ntmps43
  go_wp2_with (go_at_call 72; refine HG.out.mono ?_; rintro e w1 ⟨bx, v, rfl, hb, ho, hv, hx, hc⟩; have HR := Lib.hid hb; have HO := Lib.hid ho; have HV := Lib.hid hv; have HX := Lib.hid hx; have HC := Lib.hid hc; clear hb ho hv hx hc)
  go_ret2
  have hs : W.heap.size ≤ (W.alloc (.cells #[.int .i64 k, .int .i64 w, .int .i64 s, .int .i64 c, .int .u32 st, .slice ia il ic, .int .i64 wri, .slice ra rl rc, .int .i64 at_, .int .i64 op, .int .i64 rd_, .slice qa ql qc, .slice la ll lc, .slice pa pl pc] 36)).heap.size := ((Chg.refl [] W).alloc _).size
  exact ⟨bx, v, rfl, HR.out, own_base HO.out hs, HV.out, Nat.le_trans hs HX.out, ((Chg.refl [] W).alloc _).trans HC.out⟩
end Go.Proofs.YtapaolaemkhbdaaDoor.ref
