import Derived.Test.YtkedegbpkkgeaaaGreatTop1
import Derived.Laws.Rows
import Derived.Laws.Tables
import Derived.Test.YtkedegbpkkgeaaaGreatTop6
import Derived.Deep.Cut
import Derived.Test.YtkedegbpkkgeaaaGreatTop4
import Derived.Test.YtkedegbpkkgeaaaGreatMemo
import Derived.Test.YtkedegbpkkgeaaaGreatPlans
import Derived.Test.YtkedegbpkkgeaaaGreatTop5
/- Parts joined: Whole, Core6, Core7. -/
/- A struct as one value, out of a block and into it (no project text). -/
namespace Go.Proofs.YtkedegbpkkgeaaaGreat.kit
open Go Go.RowKit
set_option linter.unusedVariables false
set_option linter.unusedSimpArgs false

section
variable {P : Program} {w w0 : World} {ops : Array Oper} {rest : List Oper} {o : Oper} {a : Act} {K : Act → World → Prop} {Q : Exit → Act → World → Prop}
theorem Blk.row {b : Nat} {c c' : Array Value} {T : TypeId} (h : Blk w b c T) : Blk (w.setRow b c') b c' T := setRow_heap w b c c' T (0, 0) h
theorem Chg.setRow {L : List Nat} {b : Nat} {c' : Array Value} (h : Chg L w0 w) (hb : b ∈ L ∨ w0.heap.size ≤ b) : Chg L w0 (w.setRow b c') :=
  h.into (L := [b]) ⟨rfl, rfl, rfl, by simp [World.setRow], fun k hk hn => by
    simp only [World.setRow]
    rw [Array.getElem?_modify]
    have : ¬ b = k := fun e => hn (by simp [e])
    simp [this]⟩ fun x hx => by
    simp only [List.mem_singleton] at hx; subst hx; exact hb
theorem wp_store_blk (ty : TypeId) (x y : Operand) (ho : o.op = .store ty x y) (g : Nat) (cells : Array Value) (hx : a.eval x = .pointer (some ⟨g, 0, none⟩)) (hy : a.eval y = .agg cells)
    {t : TypeId} {old : Array Value} (hb : Blk w g old t) (hi : (P.info? ty).map (·.size) = some cells.size) (hold : old.size = cells.size) (h1 : cells.all (·.oneCell') = true)
    (h : ∀ w', Blk w' g cells t → Chg [g] w w' → K (a.put o.dst undef) w') : o.wp P a w K Q :=
  wp_store_row ty x y ho g cells hx hy t old hb hi hold h1 (h _ (Blk.row hb) ((Chg.refl _ _).setRow (.inl (by simp))))
theorem wpList_store_blk (hgd : o.guard = none) (ty : TypeId) (x y : Operand) (ho : o.op = .store ty x y) (g : Nat) (cells : Array Value) (hx : a.eval x = .pointer (some ⟨g, 0, none⟩)) (hy : a.eval y = .agg cells)
    {t : TypeId} {old : Array Value} (hb : Blk w g old t) (hi : (P.info? ty).map (·.size) = some cells.size) (hold : old.size = cells.size) (h1 : cells.all (·.oneCell') = true)
    (h : ∀ w', Blk w' g cells t → Chg [g] w w' → wpList P ops Q rest (a.put o.dst undef) w') : wpList P ops Q (o :: rest) a w :=
  wpList_store_row hgd ty x y ho g cells hx hy t old hb hi hold h1 (h _ (Blk.row hb) ((Chg.refl _ _).setRow (.inl (by simp))))
theorem wpList_load_blk (hgd : o.guard = none) (ty : TypeId) (x : Operand) (ho : o.op = .load ty x) (g : Nat) (hx : a.eval x = .pointer (some ⟨g, 0, none⟩))
    {t : TypeId} {cs : Array Value} (hb : Blk w g cs t) (d : TypeDesc) (hu : P.underlying ty = some d) (hd : (match d with | .struct _ | .array _ _ => true | _ => false) = true) (hi : (P.info? ty).map (·.size) = some cs.size)
    (h : wpList P ops Q rest (a.put o.dst (.agg cs)) w) : wpList P ops Q (o :: rest) a w := wpList_load_row hgd ty x ho g hx t cs (0, 0) d hb hu hd hi h
theorem results_row_tmp {fn : Func} {p q : Tmp} {ty : TypeId} (h : fn.results = #[.cell p ty, .tmp q]) (tmps : Array Value) (w : World) (g : Nat) (t : TypeId) (cs : Array Value) (fr : Nat × Nat) (d : TypeDesc)
    (hp : tmps.getD p undef = .pointer (some ⟨g, 0, none⟩)) (hg : w.heap[g]? = some (.cells cs t fr))
    (hu : P.underlying ty = some d) (hd : (match d with | .struct _ | .array _ _ => true | _ => false) = true) (hi : (P.info? ty).map (·.size) = some cs.size) :
    (results fn tmps).run P w = .ok (.tuple #[.agg cs, tmps.getD q undef]) w := by
  have hp' : tmps[p]?.getD undef = .pointer (some ⟨g, 0, none⟩) := by simpa using hp
  simp [results, h, hp', asAddr, run_loadVar_row w g t ty cs fr d hg hu hd hi]
end
end Go.Proofs.YtkedegbpkkgeaaaGreat.kit

/- Package micro: a twin. -/
namespace Go.Proofs.YtkedegbpkkgeaaaGreat.core
open Go Go.RowKit Go.Proofs.YtkedegbpkkgeaaaGreat.kit Go.Proofs.YtkedegbpkkgeaaaGreat.mem Go.Proofs.YtkedegbpkkgeaaaGreat.rop
set_option linter.unusedVariables false
set_option linter.unusedSimpArgs false
set_option maxRecDepth 20000

theorem own_ne {w w3 : World} {g : Nat} {c : Array Value} {T : TypeId} {e : TypeId} {s n : Nat} {v : Value} {xs : List Value} (h : w.ownsRow w3.heap.size e s v n xs) (hb : Blk w3 g c T) : ∀ b, v.ownBlock = some b → b ∉ [g] := by
  intro b hy
  have := hb.lt
  rcases h.2 with ⟨rfl, _⟩ | ⟨g', cap, cur, rfl, hbg, _⟩
  · cases hy
  · simp [Value.ownBlock] at hy
    simp
    omega
end Go.Proofs.YtkedegbpkkgeaaaGreat.core

/- Package micro: an operation is begun. -/
namespace Go.Proofs.YtkedegbpkkgeaaaGreat.core
open Go Go.RowKit Go.Proofs.YtkedegbpkkgeaaaGreat.kit Go.Proofs.YtkedegbpkkgeaaaGreat.mem Go.Proofs.YtkedegbpkkgeaaaGreat.rop
set_option linter.unusedVariables false
set_option linter.unusedSimpArgs false
set_option maxRecDepth 20000

/-- why an operation does not begin (0: it does) -/
def begI (w : Int) (rl : Nat) (size at_ op rd_ o0 o1 : Int) (n : Nat) : Int :=
  if size < 1 ∨ at_ < 0 then 1 else if op = o0 then (if rd_ < 0 ∨ 1 ≤ rd_ then 5 else if (n : Int) ≠ w then 4 else 0)
  else if op = o1 then (if rd_ < 0 ∨ (rl : Int) ≤ rd_ then 5 else if n ≠ 0 then 4 else 0) else 9
end Go.Proofs.YtkedegbpkkgeaaaGreat.core
/- Layouts: regions in memory; the first of them in which a word lies. -/
namespace Go.Proofs.YtkedegbpkkgeaaaGreat.lay
open Go Go.RowKit Go.Proofs.YtkedegbpkkgeaaaGreat.kit Go.Proofs.YtkedegbpkkgeaaaGreat.obj Go.Proofs.YtkedegbpkkgeaaaGreat.mem
set_option linter.unusedVariables false
set_option linter.unusedSimpArgs false
set_option maxRecDepth 20000

theorem szReg : (Tryz.prog.info? 93).map (·.size) = some 2 := by kernel_rfl
theorem infoReg : (Tryz.prog.info? 93).map (fun i => (i.zero, i.size, i.bytes)) = some (some (.agg #[.int .i64 0, .int .i64 0]), 2, 16) := by kernel_rfl
/-- a region: where it begins, how long it is -/
def rcells (r : Int × Int) : List Value := [.int .i64 r.1, .int .i64 r.2]
def i64B (x : Int) : Prop := -9223372036854775808 ≤ x ∧ x ≤ 9223372036854775807
/-- regions in memory -/
def ReadsR (w : World) (v : Value) (rs : List (Int × Int)) : Prop := Reads w 2 v rs.length (rs.flatMap rcells) ∧ ∀ r ∈ rs, i64B r.1 ∧ i64B r.2
def OwnR (w : World) (B : Nat) (v : Value) (rs : List (Int × Int)) : Prop := w.ownsRow B 93 2 v rs.length (rs.flatMap rcells)
theorem ReadsR.chg {w w' : World} {v : Value} {rs : List (Int × Int)} (h : ReadsR w v rs) (k : Chg [] w w') : ReadsR w' v rs := ⟨h.1.fresh k, h.2⟩
theorem OwnR.reads {w : World} {B : Nat} {v : Value} {rs : List (Int × Int)} (h : OwnR w B v rs) (hr : ∀ r ∈ rs, i64B r.1 ∧ i64B r.2) : ReadsR w v rs := ⟨Reads.of_own h (by decide), hr⟩
/-- does a word lie in a region -/
def hasB (at_ : Int) (r : Int × Int) : Bool := decide (r.1 ≤ at_ ∧ at_ - r.1 < r.2)
/-- the first for which something holds; -1: none -/
def firstI (p : Int × Int → Bool) (rs : List (Int × Int)) : Int := match rs.findIdx? p with | some i => (i : Int) | none => -1
end Go.Proofs.YtkedegbpkkgeaaaGreat.lay
/- What the kinds' Begin and awake have in common. -/
namespace Go.Proofs.YtkedegbpkkgeaaaGreat.four
open Go Go.RowKit Go.Proofs.YtkedegbpkkgeaaaGreat.kit Go.Proofs.YtkedegbpkkgeaaaGreat.mem Go.Proofs.YtkedegbpkkgeaaaGreat.rop Go.Proofs.YtkedegbpkkgeaaaGreat.core Go.Proofs.YtkedegbpkkgeaaaGreat.obj
set_option linter.unusedVariables false
set_option linter.unusedSimpArgs false
set_option maxRecDepth 20000

theorem _root_.Go.Proofs.YtkedegbpkkgeaaaGreat.mem.ReadsW.lit {W : World} {g : Nat} {T : TypeId} {xs : List Int} (h : Blk W g (xs.map (Value.int .u32)).toArray T) (hx : ∀ z ∈ xs, (Lit.int .u32 z).wf = true) (hp : 0 < xs.length) (hm : xs.length ≤ maxLen) : ReadsW W (.slice (some ⟨g, 0, none⟩) xs.length xs.length) xs := by
  refine ⟨⟨by simp, hm, .inr ⟨hp, g, 0, xs.length, rfl, Nat.le_refl _, hm, fun i u hu => ?_⟩⟩, hx⟩
  rw [Nat.zero_add]
  exact h.cell (by simpa using hu)
end Go.Proofs.YtkedegbpkkgeaaaGreat.four
/- Parts joined: Four4, Four5, Four6. -/
/- Package four: whether it is over, its steps, its answer, its clone. -/
namespace Go.Proofs.YtkedegbpkkgeaaaGreat.four
open Go Go.RowKit Go.Proofs.YtkedegbpkkgeaaaGreat.kit Go.Proofs.YtkedegbpkkgeaaaGreat.mem Go.Proofs.YtkedegbpkkgeaaaGreat.rop Go.Proofs.YtkedegbpkkgeaaaGreat.core
set_option linter.unusedVariables false
set_option linter.unusedSimpArgs false
set_option maxRecDepth 20000

end Go.Proofs.YtkedegbpkkgeaaaGreat.four

/- Package four: how many words there are, and which. -/
namespace Go.Proofs.YtkedegbpkkgeaaaGreat.four
open Go Go.RowKit Go.Proofs.YtkedegbpkkgeaaaGreat.kit Go.Proofs.YtkedegbpkkgeaaaGreat.mem Go.Proofs.YtkedegbpkkgeaaaGreat.rop Go.Proofs.YtkedegbpkkgeaaaGreat.core Go.Proofs.YtkedegbpkkgeaaaGreat.obj
set_option linter.unusedVariables false
set_option linter.unusedSimpArgs false
set_option maxRecDepth 20000

theorem size_at (k w s c st : Int) (ia : Option Addr) (il ic : Nat) (wr : Int) (ra : Option Addr) (rl rc : Nat) (wN : Nat) (hw : w = (wN : Int)) (hwN : wN ≤ 8) (W : World) :
    Calls Tryz.prog 159 #[.agg #[.int .i64 k, .int .i64 w, .int .i64 s, .int .i64 c, .int .u32 st, .slice ia il ic, .int .i64 wr, .slice ra rl rc]] W fun e W' => e = .returned (.int .i64 ((4 + 4 * wN : Nat) : Int)) ∧ Chg [] W W' := by
  have k1 : IntKind.i64.wrap (4 * (wN : Int)) = 4 * (wN : Int) := by rw [IntKind.wrap_i64]; omega
  have k2 : IntKind.i64.wrap (4 + 4 * (wN : Int)) = 4 + 4 * (wN : Int) := by rw [IntKind.wrap_i64]; omega
  subst hw
  clear hwN
  go_enter Tryz.func159, Tryz.ntmps159
  go_wp2
  go_ret
  exact ⟨congrArg (fun z => Ending.returned (Value.int .i64 z)) (by omega), (Chg.refl _ _).alloc _⟩
theorem Size_yes (k w s c st : Int) (ia : Option Addr) (il ic : Nat) (wr : Int) (ra : Option Addr) (rl rc : Nat) (wN : Nat) (hw : w = (wN : Int)) (h : ObjW k w s c st il rl) (hr : (decide (k = 1) && rightB k w s c st il rl) = true) (W : World) :
    Calls Tryz.prog 141 #[.agg #[.int .i64 k, .int .i64 w, .int .i64 s, .int .i64 c, .int .u32 st, .slice ia il ic, .int .i64 wr, .slice ra rl rc]] W fun e W' => e = .returned (.int .i64 ((4 + 4 * wN : Nat) : Int)) ∧ Chg [] W W' := by
  have hb := rightB_bd (by simp only [Bool.and_eq_true] at hr; exact hr.2)
  have HW := Lib.hid (show wN ≤ 8 by omega)
  have HE := Lib.hid hw
  have HO := Lib.hid h
  have HR := Lib.hid hr
  clear h hr hb hw
  go_enter Tryz.func141, Tryz.ntmps141
  go_wp2_with (first | (go_at_call 55; refine (fourRight_any k w s c st ia il ic wr ra rl rc HO.out _).mono ?_; rintro e w1 ⟨rfl, hc⟩; rw [HR.out]; have HC := Lib.hid (((Chg.refl [] W).alloc _).trans hc); have HB := Lib.hid ((Blk.new W #[.int .i64 k, .int .i64 w, .int .i64 s, .int .i64 c, .int .u32 st, .slice ia il ic, .int .i64 wr, .slice ra rl rc] 46).keep hc (by simp)); clear hc; have e0 : w1.cell? ⟨W.heap.size, 0, none⟩ = some (.int .i64 k) := HB.out.cell rfl; have e1 : w1.cell? ⟨W.heap.size, 1, none⟩ = some (.int .i64 w) := HB.out.cell rfl; have e2 : w1.cell? ⟨W.heap.size, 2, none⟩ = some (.int .i64 s) := HB.out.cell rfl; have e3 : w1.cell? ⟨W.heap.size, 3, none⟩ = some (.int .i64 c) := HB.out.cell rfl; have e4 : w1.cell? ⟨W.heap.size, 4, none⟩ = some (.int .u32 st) := HB.out.cell rfl; have e5 : w1.cell? ⟨W.heap.size, 5, none⟩ = some (.slice ia il ic) := HB.out.cell rfl; have e6 : w1.cell? ⟨W.heap.size, 6, none⟩ = some (.int .i64 wr) := HB.out.cell rfl; have e7 : w1.cell? ⟨W.heap.size, 7, none⟩ = some (.slice ra rl rc) := HB.out.cell rfl) | (go_at_call 159; refine (size_at k w s c st ia il ic wr ra rl rc wN HE.out HW.out _).mono ?_; rintro e w2 ⟨rfl, hc⟩; have HC2 := Lib.hid (HC.out.trans hc); clear hc))
  go_ret
  exact ⟨rfl, HC2.out⟩
theorem Size_no (k w s c st : Int) (ia : Option Addr) (il ic : Nat) (wr : Int) (ra : Option Addr) (rl rc : Nat) (h : ObjW k w s c st il rl) (hr : (decide (k = 1) && rightB k w s c st il rl) = false) (W : World) :
    Calls Tryz.prog 141 #[.agg #[.int .i64 k, .int .i64 w, .int .i64 s, .int .i64 c, .int .u32 st, .slice ia il ic, .int .i64 wr, .slice ra rl rc]] W fun e W' => e = .returned (.int .i64 0) ∧ Chg [] W W' := by
  have HO := Lib.hid h
  have HR := Lib.hid hr
  clear h hr
  go_enter Tryz.func141, Tryz.ntmps141
  go_wp2_with (go_at_call 55; refine (fourRight_any k w s c st ia il ic wr ra rl rc HO.out _).mono ?_; rintro e w1 ⟨rfl, hc⟩; rw [HR.out]; have HC := Lib.hid (((Chg.refl [] W).alloc _).trans hc); clear hc)
  go_ret
  exact ⟨rfl, HC.out⟩
def layL (w : Nat) (ini : List Int) : List Int := List.replicate 4 0 ++ (ini ++ List.replicate (3 * w) 0)
end Go.Proofs.YtkedegbpkkgeaaaGreat.four

/- Package four: an operation is begun. -/
namespace Go.Proofs.YtkedegbpkkgeaaaGreat.four
open Go Go.RowKit Go.Proofs.YtkedegbpkkgeaaaGreat.kit Go.Proofs.YtkedegbpkkgeaaaGreat.mem Go.Proofs.YtkedegbpkkgeaaaGreat.rop Go.Proofs.YtkedegbpkkgeaaaGreat.core Go.Proofs.YtkedegbpkkgeaaaGreat.obj
set_option linter.unusedVariables false
set_option linter.unusedSimpArgs false
set_option maxRecDepth 20000

end Go.Proofs.YtkedegbpkkgeaaaGreat.four
/- Parts joined: Seq3, Seq5, Seq6. -/
/- Package seq: whether it is over, its steps, its answer, its clone. -/
namespace Go.Proofs.YtkedegbpkkgeaaaGreat.seq
open Go Go.RowKit Go.Proofs.YtkedegbpkkgeaaaGreat.kit Go.Proofs.YtkedegbpkkgeaaaGreat.mem Go.Proofs.YtkedegbpkkgeaaaGreat.rop Go.Proofs.YtkedegbpkkgeaaaGreat.core
set_option linter.unusedVariables false
set_option linter.unusedSimpArgs false
set_option maxRecDepth 20000

end Go.Proofs.YtkedegbpkkgeaaaGreat.seq

/- Package seq: how many words there are, and which. -/
namespace Go.Proofs.YtkedegbpkkgeaaaGreat.seq
open Go Go.RowKit Go.Proofs.YtkedegbpkkgeaaaGreat.kit Go.Proofs.YtkedegbpkkgeaaaGreat.mem Go.Proofs.YtkedegbpkkgeaaaGreat.rop Go.Proofs.YtkedegbpkkgeaaaGreat.core Go.Proofs.YtkedegbpkkgeaaaGreat.obj
set_option linter.unusedVariables false
set_option linter.unusedSimpArgs false
set_option maxRecDepth 20000

theorem size_at (k w s c st : Int) (ia : Option Addr) (il ic : Nat) (wr : Int) (ra : Option Addr) (rl rc : Nat) (wN : Nat) (hw : w = (wN : Int)) (hwN : wN ≤ 8) (W : World) :
    Calls Tryz.prog 161 #[.agg #[.int .i64 k, .int .i64 w, .int .i64 s, .int .i64 c, .int .u32 st, .slice ia il ic, .int .i64 wr, .slice ra rl rc]] W fun e W' => e = .returned (.int .i64 ((1 + wN : Nat) : Int)) ∧ Chg [] W W' := by
  have k2 : IntKind.i64.wrap (1 + (wN : Int)) = 1 + (wN : Int) := by rw [IntKind.wrap_i64]; omega
  subst hw
  clear hwN
  go_enter Tryz.func161, Tryz.ntmps161
  go_wp2
  go_ret
  exact ⟨congrArg (fun z => Ending.returned (Value.int .i64 z)) (by omega), (Chg.refl _ _).alloc _⟩
theorem Size_yes (k w s c st : Int) (ia : Option Addr) (il ic : Nat) (wr : Int) (ra : Option Addr) (rl rc : Nat) (wN : Nat) (hw : w = (wN : Int)) (h : ObjW k w s c st il rl) (hr : (decide (k = 3) && rightB k w s c st il rl) = true) (W : World) :
    Calls Tryz.prog 143 #[.agg #[.int .i64 k, .int .i64 w, .int .i64 s, .int .i64 c, .int .u32 st, .slice ia il ic, .int .i64 wr, .slice ra rl rc]] W fun e W' => e = .returned (.int .i64 ((1 + wN : Nat) : Int)) ∧ Chg [] W W' := by
  have hb := rightB_bd (by simp only [Bool.and_eq_true] at hr; exact hr.2)
  have HW := Lib.hid (show wN ≤ 8 by omega)
  have HE := Lib.hid hw
  have HO := Lib.hid h
  have HR := Lib.hid hr
  clear h hr hb hw
  go_enter Tryz.func143, Tryz.ntmps143
  go_wp2_with (first | (go_at_call 57; refine (seqRight_any k w s c st ia il ic wr ra rl rc HO.out _).mono ?_; rintro e w1 ⟨rfl, hc⟩; rw [HR.out]; have HC := Lib.hid (((Chg.refl [] W).alloc _).trans hc); have HB := Lib.hid ((Blk.new W #[.int .i64 k, .int .i64 w, .int .i64 s, .int .i64 c, .int .u32 st, .slice ia il ic, .int .i64 wr, .slice ra rl rc] 46).keep hc (by simp)); clear hc; have e0 : w1.cell? ⟨W.heap.size, 0, none⟩ = some (.int .i64 k) := HB.out.cell rfl; have e1 : w1.cell? ⟨W.heap.size, 1, none⟩ = some (.int .i64 w) := HB.out.cell rfl; have e2 : w1.cell? ⟨W.heap.size, 2, none⟩ = some (.int .i64 s) := HB.out.cell rfl; have e3 : w1.cell? ⟨W.heap.size, 3, none⟩ = some (.int .i64 c) := HB.out.cell rfl; have e4 : w1.cell? ⟨W.heap.size, 4, none⟩ = some (.int .u32 st) := HB.out.cell rfl; have e5 : w1.cell? ⟨W.heap.size, 5, none⟩ = some (.slice ia il ic) := HB.out.cell rfl; have e6 : w1.cell? ⟨W.heap.size, 6, none⟩ = some (.int .i64 wr) := HB.out.cell rfl; have e7 : w1.cell? ⟨W.heap.size, 7, none⟩ = some (.slice ra rl rc) := HB.out.cell rfl) | (go_at_call 161; refine (size_at k w s c st ia il ic wr ra rl rc wN HE.out HW.out _).mono ?_; rintro e w2 ⟨rfl, hc⟩; have HC2 := Lib.hid (HC.out.trans hc); clear hc))
  go_ret
  exact ⟨rfl, HC2.out⟩
theorem Size_no (k w s c st : Int) (ia : Option Addr) (il ic : Nat) (wr : Int) (ra : Option Addr) (rl rc : Nat) (h : ObjW k w s c st il rl) (hr : (decide (k = 3) && rightB k w s c st il rl) = false) (W : World) :
    Calls Tryz.prog 143 #[.agg #[.int .i64 k, .int .i64 w, .int .i64 s, .int .i64 c, .int .u32 st, .slice ia il ic, .int .i64 wr, .slice ra rl rc]] W fun e W' => e = .returned (.int .i64 0) ∧ Chg [] W W' := by
  have HO := Lib.hid h
  have HR := Lib.hid hr
  clear h hr
  go_enter Tryz.func143, Tryz.ntmps143
  go_wp2_with (go_at_call 57; refine (seqRight_any k w s c st ia il ic wr ra rl rc HO.out _).mono ?_; rintro e w1 ⟨rfl, hc⟩; rw [HR.out]; have HC := Lib.hid (((Chg.refl [] W).alloc _).trans hc); clear hc)
  go_ret
  exact ⟨rfl, HC.out⟩
def layL (st : Int) (ini : List Int) : List Int := st :: ini
end Go.Proofs.YtkedegbpkkgeaaaGreat.seq

/- Package seq: an operation is begun. -/
namespace Go.Proofs.YtkedegbpkkgeaaaGreat.seq
open Go Go.RowKit Go.Proofs.YtkedegbpkkgeaaaGreat.kit Go.Proofs.YtkedegbpkkgeaaaGreat.mem Go.Proofs.YtkedegbpkkgeaaaGreat.rop Go.Proofs.YtkedegbpkkgeaaaGreat.core Go.Proofs.YtkedegbpkkgeaaaGreat.obj
set_option linter.unusedVariables false
set_option linter.unusedSimpArgs false
set_option maxRecDepth 20000

end Go.Proofs.YtkedegbpkkgeaaaGreat.seq
