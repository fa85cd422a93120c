/- The reference's operation is begun. -/
import Derived.Test.YtjplamoofkcojaaLoad
import Derived.Test.YtjplamoofkcojaaObj
import Derived.Test.YtjplamoofkcojaaCoreB
import Derived.Test.YtjplamoofkcojaaRop7
namespace Go.Proofs.Ytjplamoofkcojaa.ref
open Go Go.RowKit Go.Proofs.Ytjplamoofkcojaa.kit Go.Proofs.Ytjplamoofkcojaa.obj Go.Proofs.Ytjplamoofkcojaa.rop Go.Proofs.Ytjplamoofkcojaa.mem Go.Proofs.Ytjplamoofkcojaa.core
set_option linter.unusedVariables false
set_option linter.unusedSimpArgs false
set_option maxRecDepth 20000

theorem size_right {k w s c st : Int} {il rl : Nat} : (1 ≤ sizeI k w s c st il rl ↔ rightB k w s c st il rl = true) ∧ 0 ≤ sizeI k w s c st il rl := by
  cases h : rightB k w s c st il rl
  · simp [sizeI, h]
  · have h1 := records_bd h
    have h2 := rightB_bd h
    have h3 := (mul16 h1 ⟨h2.1, h2.2.1⟩).1
    have h4 : 1 ≤ headI k rl := by unfold headI; repeat (split <;> try omega)
    simp only [sizeI, h, if_true]
    exact ⟨⟨fun _ => by trivial, fun _ => by omega⟩, by omega⟩
set_option maxHeartbeats 2000000 in
theorem bad_right (k w s c st : Int) (ia : Option Addr) (il ic : Nat) (wr : Int) (ra : Option Addr) (rl rc : Nat) (at_ op rd_ : Int) (rv : Value) (rec : List Int) (W : World) (hr : ReadsW W rv rec) (h : ObjW k w s c st il rl) (hR : rightB k w s c st il rl = false) :
    Calls Try.prog 18 #[.agg #[.int .i64 k, .int .i64 w, .int .i64 s, .int .i64 c, .int .u32 st, .slice ia il ic, .int .i64 wr, .slice ra rl rc], .int .i64 at_, .int .i64 op, .int .i64 rd_, rv] W fun e W' => e = .returned (.tuple #[.pointer none, .int .i64 1]) ∧ Chg [] W W' := by
  obtain ⟨qa, ql, qc, rfl⟩ : ∃ qa ql qc, rv = .slice qa ql qc := by obtain ⟨a, c, he, _⟩ := reads_slice hr.1; exact ⟨_, _, _, he⟩
  obtain rfl : ql = rec.length := by obtain ⟨_, _, he, _⟩ := reads_slice hr.1; simp at he; exact he.2.1
  obtain ⟨o0, ho0⟩ : ∃ o0, writesI k = o0 := ⟨_, rfl⟩
  obtain ⟨o1, ho1⟩ : ∃ o1, readsI k = o1 := ⟨_, rfl⟩
  have HW0 := Lib.hid ho0
  have HW1 := Lib.hid ho1
  have HO := Lib.hid h
  have HR := Lib.hid hR
  clear h hR hr ho0 ho1
  go_enter Try.func18, Try.ntmps18
  go_wp2_with (first | (go_at_call 35; refine (rRight_any k w s c st ia il ic wr ra rl rc HO.out _).mono ?_; rintro e w1 ⟨rfl, hc⟩; rw [HR.out]; have HC := Lib.hid (((Chg.refl [] W).alloc _).trans hc); have HB := Lib.hid ((Blk.new W #[.int .i64 k, .int .i64 w, .int .i64 s, .int .i64 c, .int .u32 st, .slice ia il ic, .int .i64 wr, .slice ra rl rc] 26).keep hc (by simp)); clear hc; have e0 : w1.cell? ⟨W.heap.size, 0, none⟩ = some (.int .i64 k) := HB.out.cell rfl; have e1 : w1.cell? ⟨W.heap.size, 1, none⟩ = some (.int .i64 w) := HB.out.cell rfl; have e2 : w1.cell? ⟨W.heap.size, 2, none⟩ = some (.int .i64 s) := HB.out.cell rfl; have e3 : w1.cell? ⟨W.heap.size, 3, none⟩ = some (.int .i64 c) := HB.out.cell rfl; have e4 : w1.cell? ⟨W.heap.size, 4, none⟩ = some (.int .u32 st) := HB.out.cell rfl; have e5 : w1.cell? ⟨W.heap.size, 5, none⟩ = some (.slice ia il ic) := HB.out.cell rfl; have e6 : w1.cell? ⟨W.heap.size, 6, none⟩ = some (.int .i64 wr) := HB.out.cell rfl; have e7 : w1.cell? ⟨W.heap.size, 7, none⟩ = some (.slice ra rl rc) := HB.out.cell rfl) | (go_at_call 36; refine (rWrites_any k _).mono ?_; rintro e wv ⟨rfl, rfl⟩; rw [HW0.out]) | (go_at_call 37; refine (rReads_any k _).mono ?_; rintro e wv ⟨rfl, rfl⟩; rw [HW1.out]))
  go_ret2
  exact ⟨rfl, HC.out⟩
set_option maxHeartbeats 2000000 in
theorem bad_at (k w s c st : Int) (ia : Option Addr) (il ic : Nat) (wr : Int) (ra : Option Addr) (rl rc : Nat) (at_ op rd_ : Int) (rv : Value) (rec : List Int) (W : World) (hr : ReadsW W rv rec) (h : ObjW k w s c st il rl) (hR : rightB k w s c st il rl = true) (ha : at_ < 0) :
    Calls Try.prog 18 #[.agg #[.int .i64 k, .int .i64 w, .int .i64 s, .int .i64 c, .int .u32 st, .slice ia il ic, .int .i64 wr, .slice ra rl rc], .int .i64 at_, .int .i64 op, .int .i64 rd_, rv] W fun e W' => e = .returned (.tuple #[.pointer none, .int .i64 1]) ∧ Chg [] W W' := by
  obtain ⟨qa, ql, qc, rfl⟩ : ∃ qa ql qc, rv = .slice qa ql qc := by obtain ⟨a, c, he, _⟩ := reads_slice hr.1; exact ⟨_, _, _, he⟩
  obtain rfl : ql = rec.length := by obtain ⟨_, _, he, _⟩ := reads_slice hr.1; simp at he; exact he.2.1
  obtain ⟨o0, ho0⟩ : ∃ o0, writesI k = o0 := ⟨_, rfl⟩
  obtain ⟨o1, ho1⟩ : ∃ o1, readsI k = o1 := ⟨_, rfl⟩
  have HW0 := Lib.hid ho0
  have HW1 := Lib.hid ho1
  have HO := Lib.hid h
  have HR := Lib.hid hR
  clear h hR hr ho0 ho1
  go_enter Try.func18, Try.ntmps18
  go_wp2_with (first | (go_at_call 35; refine (rRight_any k w s c st ia il ic wr ra rl rc HO.out _).mono ?_; rintro e w1 ⟨rfl, hc⟩; rw [HR.out]; have HC := Lib.hid (((Chg.refl [] W).alloc _).trans hc); have HB := Lib.hid ((Blk.new W #[.int .i64 k, .int .i64 w, .int .i64 s, .int .i64 c, .int .u32 st, .slice ia il ic, .int .i64 wr, .slice ra rl rc] 26).keep hc (by simp)); clear hc; have e0 : w1.cell? ⟨W.heap.size, 0, none⟩ = some (.int .i64 k) := HB.out.cell rfl; have e1 : w1.cell? ⟨W.heap.size, 1, none⟩ = some (.int .i64 w) := HB.out.cell rfl; have e2 : w1.cell? ⟨W.heap.size, 2, none⟩ = some (.int .i64 s) := HB.out.cell rfl; have e3 : w1.cell? ⟨W.heap.size, 3, none⟩ = some (.int .i64 c) := HB.out.cell rfl; have e4 : w1.cell? ⟨W.heap.size, 4, none⟩ = some (.int .u32 st) := HB.out.cell rfl; have e5 : w1.cell? ⟨W.heap.size, 5, none⟩ = some (.slice ia il ic) := HB.out.cell rfl; have e6 : w1.cell? ⟨W.heap.size, 6, none⟩ = some (.int .i64 wr) := HB.out.cell rfl; have e7 : w1.cell? ⟨W.heap.size, 7, none⟩ = some (.slice ra rl rc) := HB.out.cell rfl) | (go_at_call 36; refine (rWrites_any k _).mono ?_; rintro e wv ⟨rfl, rfl⟩; rw [HW0.out]) | (go_at_call 37; refine (rReads_any k _).mono ?_; rintro e wv ⟨rfl, rfl⟩; rw [HW1.out]))
  go_ret2
  exact ⟨rfl, HC.out⟩
set_option maxHeartbeats 2000000 in
theorem bad_call (k w s c st : Int) (ia : Option Addr) (il ic : Nat) (wr : Int) (ra : Option Addr) (rl rc : Nat) (at_ op rd_ : Int) (rv : Value) (rec : List Int) (W : World) (hr : ReadsW W rv rec) (h : ObjW k w s c st il rl) (hR : rightB k w s c st il rl = true) (ha : ¬ at_ < 0) (hop : op ≠ writesI k) (hop1 : op ≠ readsI k) :
    Calls Try.prog 18 #[.agg #[.int .i64 k, .int .i64 w, .int .i64 s, .int .i64 c, .int .u32 st, .slice ia il ic, .int .i64 wr, .slice ra rl rc], .int .i64 at_, .int .i64 op, .int .i64 rd_, rv] W fun e W' => e = .returned (.tuple #[.pointer none, .int .i64 9]) ∧ Chg [] W W' := by
  obtain ⟨qa, ql, qc, rfl⟩ : ∃ qa ql qc, rv = .slice qa ql qc := by obtain ⟨a, c, he, _⟩ := reads_slice hr.1; exact ⟨_, _, _, he⟩
  obtain rfl : ql = rec.length := by obtain ⟨_, _, he, _⟩ := reads_slice hr.1; simp at he; exact he.2.1
  obtain ⟨o0, ho0⟩ : ∃ o0, writesI k = o0 := ⟨_, rfl⟩
  obtain ⟨o1, ho1⟩ : ∃ o1, readsI k = o1 := ⟨_, rfl⟩
  have HW0 := Lib.hid ho0
  have HW1 := Lib.hid ho1
  have HO := Lib.hid h
  have HR := Lib.hid hR
  have hb0 : (op == o0) = false := by rw [← ho0]; simpa using hop
  have hb1 : (op != o0) = true := by rw [← ho0]; simpa using hop
  have hb2 : (op == o1) = false := by rw [← ho1]; simpa using hop1
  have hb3 : (op != o1) = true := by rw [← ho1]; simpa using hop1
  clear h hR hr ho0 ho1 hop hop1
  go_enter Try.func18, Try.ntmps18
  go_wp2_with (first | (go_at_call 35; refine (rRight_any k w s c st ia il ic wr ra rl rc HO.out _).mono ?_; rintro e w1 ⟨rfl, hc⟩; rw [HR.out]; have HC := Lib.hid (((Chg.refl [] W).alloc _).trans hc); have HB := Lib.hid ((Blk.new W #[.int .i64 k, .int .i64 w, .int .i64 s, .int .i64 c, .int .u32 st, .slice ia il ic, .int .i64 wr, .slice ra rl rc] 26).keep hc (by simp)); clear hc; have e0 : w1.cell? ⟨W.heap.size, 0, none⟩ = some (.int .i64 k) := HB.out.cell rfl; have e1 : w1.cell? ⟨W.heap.size, 1, none⟩ = some (.int .i64 w) := HB.out.cell rfl; have e2 : w1.cell? ⟨W.heap.size, 2, none⟩ = some (.int .i64 s) := HB.out.cell rfl; have e3 : w1.cell? ⟨W.heap.size, 3, none⟩ = some (.int .i64 c) := HB.out.cell rfl; have e4 : w1.cell? ⟨W.heap.size, 4, none⟩ = some (.int .u32 st) := HB.out.cell rfl; have e5 : w1.cell? ⟨W.heap.size, 5, none⟩ = some (.slice ia il ic) := HB.out.cell rfl; have e6 : w1.cell? ⟨W.heap.size, 6, none⟩ = some (.int .i64 wr) := HB.out.cell rfl; have e7 : w1.cell? ⟨W.heap.size, 7, none⟩ = some (.slice ra rl rc) := HB.out.cell rfl) | (go_at_call 36; refine (rWrites_any k _).mono ?_; rintro e wv ⟨rfl, rfl⟩; rw [HW0.out]) | (go_at_call 37; refine (rReads_any k _).mono ?_; rintro e wv ⟨rfl, rfl⟩; rw [HW1.out]))
  go_ret2
  exact ⟨rfl, HC.out⟩
set_option maxHeartbeats 2000000 in
theorem bad_w_neg (k w s c st : Int) (ia : Option Addr) (il ic : Nat) (wr : Int) (ra : Option Addr) (rl rc : Nat) (at_ op rd_ : Int) (rv : Value) (rec : List Int) (W : World) (hr : ReadsW W rv rec) (h : ObjW k w s c st il rl) (hR : rightB k w s c st il rl = true) (ha : ¬ at_ < 0) (hop : op = writesI k) (hd : rd_ < 0) :
    Calls Try.prog 18 #[.agg #[.int .i64 k, .int .i64 w, .int .i64 s, .int .i64 c, .int .u32 st, .slice ia il ic, .int .i64 wr, .slice ra rl rc], .int .i64 at_, .int .i64 op, .int .i64 rd_, rv] W fun e W' => e = .returned (.tuple #[.pointer none, .int .i64 5]) ∧ Chg [] W W' := by
  obtain ⟨qa, ql, qc, rfl⟩ : ∃ qa ql qc, rv = .slice qa ql qc := by obtain ⟨a, c, he, _⟩ := reads_slice hr.1; exact ⟨_, _, _, he⟩
  obtain rfl : ql = rec.length := by obtain ⟨_, _, he, _⟩ := reads_slice hr.1; simp at he; exact he.2.1
  obtain ⟨o0, ho0⟩ : ∃ o0, writesI k = o0 := ⟨_, rfl⟩
  obtain ⟨o1, ho1⟩ : ∃ o1, readsI k = o1 := ⟨_, rfl⟩
  have HW0 := Lib.hid ho0
  have HW1 := Lib.hid ho1
  have HO := Lib.hid h
  have HR := Lib.hid hR
  have hb0 : (op == o0) = true := by rw [← ho0]; simpa using hop
  have hb1 : (op != o0) = false := by rw [← ho0]; simpa using hop
  clear h hR hr ho0 ho1 hop
  go_enter Try.func18, Try.ntmps18
  go_wp2_with (first | (go_at_call 35; refine (rRight_any k w s c st ia il ic wr ra rl rc HO.out _).mono ?_; rintro e w1 ⟨rfl, hc⟩; rw [HR.out]; have HC := Lib.hid (((Chg.refl [] W).alloc _).trans hc); have HB := Lib.hid ((Blk.new W #[.int .i64 k, .int .i64 w, .int .i64 s, .int .i64 c, .int .u32 st, .slice ia il ic, .int .i64 wr, .slice ra rl rc] 26).keep hc (by simp)); clear hc; have e0 : w1.cell? ⟨W.heap.size, 0, none⟩ = some (.int .i64 k) := HB.out.cell rfl; have e1 : w1.cell? ⟨W.heap.size, 1, none⟩ = some (.int .i64 w) := HB.out.cell rfl; have e2 : w1.cell? ⟨W.heap.size, 2, none⟩ = some (.int .i64 s) := HB.out.cell rfl; have e3 : w1.cell? ⟨W.heap.size, 3, none⟩ = some (.int .i64 c) := HB.out.cell rfl; have e4 : w1.cell? ⟨W.heap.size, 4, none⟩ = some (.int .u32 st) := HB.out.cell rfl; have e5 : w1.cell? ⟨W.heap.size, 5, none⟩ = some (.slice ia il ic) := HB.out.cell rfl; have e6 : w1.cell? ⟨W.heap.size, 6, none⟩ = some (.int .i64 wr) := HB.out.cell rfl; have e7 : w1.cell? ⟨W.heap.size, 7, none⟩ = some (.slice ra rl rc) := HB.out.cell rfl) | (go_at_call 36; refine (rWrites_any k _).mono ?_; rintro e wv ⟨rfl, rfl⟩; rw [HW0.out]) | (go_at_call 37; refine (rReads_any k _).mono ?_; rintro e wv ⟨rfl, rfl⟩; rw [HW1.out]))
  go_ret2
  exact ⟨rfl, HC.out⟩
set_option maxHeartbeats 2000000 in
theorem bad_w_pos (k w s c st : Int) (ia : Option Addr) (il ic : Nat) (wr : Int) (ra : Option Addr) (rl rc : Nat) (at_ op rd_ : Int) (rv : Value) (rec : List Int) (W : World) (hr : ReadsW W rv rec) (h : ObjW k w s c st il rl) (hR : rightB k w s c st il rl = true) (ha : ¬ at_ < 0) (hop : op = writesI k) (hd : ¬ rd_ < 0) (hd2 : 0 < rd_) :
    Calls Try.prog 18 #[.agg #[.int .i64 k, .int .i64 w, .int .i64 s, .int .i64 c, .int .u32 st, .slice ia il ic, .int .i64 wr, .slice ra rl rc], .int .i64 at_, .int .i64 op, .int .i64 rd_, rv] W fun e W' => e = .returned (.tuple #[.pointer none, .int .i64 5]) ∧ Chg [] W W' := by
  obtain ⟨qa, ql, qc, rfl⟩ : ∃ qa ql qc, rv = .slice qa ql qc := by obtain ⟨a, c, he, _⟩ := reads_slice hr.1; exact ⟨_, _, _, he⟩
  obtain rfl : ql = rec.length := by obtain ⟨_, _, he, _⟩ := reads_slice hr.1; simp at he; exact he.2.1
  obtain ⟨o0, ho0⟩ : ∃ o0, writesI k = o0 := ⟨_, rfl⟩
  obtain ⟨o1, ho1⟩ : ∃ o1, readsI k = o1 := ⟨_, rfl⟩
  have HW0 := Lib.hid ho0
  have HW1 := Lib.hid ho1
  have HO := Lib.hid h
  have HR := Lib.hid hR
  have hb0 : (op == o0) = true := by rw [← ho0]; simpa using hop
  have hb1 : (op != o0) = false := by rw [← ho0]; simpa using hop
  clear h hR hr ho0 ho1 hop
  go_enter Try.func18, Try.ntmps18
  go_wp2_with (first | (go_at_call 35; refine (rRight_any k w s c st ia il ic wr ra rl rc HO.out _).mono ?_; rintro e w1 ⟨rfl, hc⟩; rw [HR.out]; have HC := Lib.hid (((Chg.refl [] W).alloc _).trans hc); have HB := Lib.hid ((Blk.new W #[.int .i64 k, .int .i64 w, .int .i64 s, .int .i64 c, .int .u32 st, .slice ia il ic, .int .i64 wr, .slice ra rl rc] 26).keep hc (by simp)); clear hc; have e0 : w1.cell? ⟨W.heap.size, 0, none⟩ = some (.int .i64 k) := HB.out.cell rfl; have e1 : w1.cell? ⟨W.heap.size, 1, none⟩ = some (.int .i64 w) := HB.out.cell rfl; have e2 : w1.cell? ⟨W.heap.size, 2, none⟩ = some (.int .i64 s) := HB.out.cell rfl; have e3 : w1.cell? ⟨W.heap.size, 3, none⟩ = some (.int .i64 c) := HB.out.cell rfl; have e4 : w1.cell? ⟨W.heap.size, 4, none⟩ = some (.int .u32 st) := HB.out.cell rfl; have e5 : w1.cell? ⟨W.heap.size, 5, none⟩ = some (.slice ia il ic) := HB.out.cell rfl; have e6 : w1.cell? ⟨W.heap.size, 6, none⟩ = some (.int .i64 wr) := HB.out.cell rfl; have e7 : w1.cell? ⟨W.heap.size, 7, none⟩ = some (.slice ra rl rc) := HB.out.cell rfl) | (go_at_call 36; refine (rWrites_any k _).mono ?_; rintro e wv ⟨rfl, rfl⟩; rw [HW0.out]) | (go_at_call 37; refine (rReads_any k _).mono ?_; rintro e wv ⟨rfl, rfl⟩; rw [HW1.out]))
  go_ret2
  exact ⟨rfl, HC.out⟩
set_option maxHeartbeats 2000000 in
theorem bad_w_len (k w s c st : Int) (ia : Option Addr) (il ic : Nat) (wr : Int) (ra : Option Addr) (rl rc : Nat) (at_ op rd_ : Int) (rv : Value) (rec : List Int) (W : World) (hr : ReadsW W rv rec) (h : ObjW k w s c st il rl) (hR : rightB k w s c st il rl = true) (ha : ¬ at_ < 0) (hop : op = writesI k) (hd : rd_ = 0) (hw : (rec.length : Int) ≠ w) :
    Calls Try.prog 18 #[.agg #[.int .i64 k, .int .i64 w, .int .i64 s, .int .i64 c, .int .u32 st, .slice ia il ic, .int .i64 wr, .slice ra rl rc], .int .i64 at_, .int .i64 op, .int .i64 rd_, rv] W fun e W' => e = .returned (.tuple #[.pointer none, .int .i64 4]) ∧ Chg [] W W' := by
  obtain ⟨qa, ql, qc, rfl⟩ : ∃ qa ql qc, rv = .slice qa ql qc := by obtain ⟨a, c, he, _⟩ := reads_slice hr.1; exact ⟨_, _, _, he⟩
  obtain rfl : ql = rec.length := by obtain ⟨_, _, he, _⟩ := reads_slice hr.1; simp at he; exact he.2.1
  obtain ⟨o0, ho0⟩ : ∃ o0, writesI k = o0 := ⟨_, rfl⟩
  obtain ⟨o1, ho1⟩ : ∃ o1, readsI k = o1 := ⟨_, rfl⟩
  have HW0 := Lib.hid ho0
  have HW1 := Lib.hid ho1
  have HO := Lib.hid h
  have HR := Lib.hid hR
  subst hd
  have hrl : ¬ ((0 : Int) ≥ (rl : Int)) := by have := rightB_bd hR; omega
  have hl1 : ((rec.length : Int) != w) = true := by simpa using hw
  have hb0 : (op == o0) = true := by rw [← ho0]; simpa using hop
  have hb1 : (op != o0) = false := by rw [← ho0]; simpa using hop
  clear h hR hr ho0 ho1 hop hw
  go_enter Try.func18, Try.ntmps18
  go_wp2_with (first | (go_at_call 35; refine (rRight_any k w s c st ia il ic wr ra rl rc HO.out _).mono ?_; rintro e w1 ⟨rfl, hc⟩; rw [HR.out]; have HC := Lib.hid (((Chg.refl [] W).alloc _).trans hc); have HB := Lib.hid ((Blk.new W #[.int .i64 k, .int .i64 w, .int .i64 s, .int .i64 c, .int .u32 st, .slice ia il ic, .int .i64 wr, .slice ra rl rc] 26).keep hc (by simp)); clear hc; have e0 : w1.cell? ⟨W.heap.size, 0, none⟩ = some (.int .i64 k) := HB.out.cell rfl; have e1 : w1.cell? ⟨W.heap.size, 1, none⟩ = some (.int .i64 w) := HB.out.cell rfl; have e2 : w1.cell? ⟨W.heap.size, 2, none⟩ = some (.int .i64 s) := HB.out.cell rfl; have e3 : w1.cell? ⟨W.heap.size, 3, none⟩ = some (.int .i64 c) := HB.out.cell rfl; have e4 : w1.cell? ⟨W.heap.size, 4, none⟩ = some (.int .u32 st) := HB.out.cell rfl; have e5 : w1.cell? ⟨W.heap.size, 5, none⟩ = some (.slice ia il ic) := HB.out.cell rfl; have e6 : w1.cell? ⟨W.heap.size, 6, none⟩ = some (.int .i64 wr) := HB.out.cell rfl; have e7 : w1.cell? ⟨W.heap.size, 7, none⟩ = some (.slice ra rl rc) := HB.out.cell rfl) | (go_at_call 36; refine (rWrites_any k _).mono ?_; rintro e wv ⟨rfl, rfl⟩; rw [HW0.out]) | (go_at_call 37; refine (rReads_any k _).mono ?_; rintro e wv ⟨rfl, rfl⟩; rw [HW1.out]))
  go_ret2
  exact ⟨rfl, HC.out⟩
set_option maxHeartbeats 2000000 in
theorem bad_r_neg (k w s c st : Int) (ia : Option Addr) (il ic : Nat) (wr : Int) (ra : Option Addr) (rl rc : Nat) (at_ op rd_ : Int) (rv : Value) (rec : List Int) (W : World) (hr : ReadsW W rv rec) (h : ObjW k w s c st il rl) (hR : rightB k w s c st il rl = true) (ha : ¬ at_ < 0) (hop : op = readsI k) (hd : rd_ < 0) :
    Calls Try.prog 18 #[.agg #[.int .i64 k, .int .i64 w, .int .i64 s, .int .i64 c, .int .u32 st, .slice ia il ic, .int .i64 wr, .slice ra rl rc], .int .i64 at_, .int .i64 op, .int .i64 rd_, rv] W fun e W' => e = .returned (.tuple #[.pointer none, .int .i64 5]) ∧ Chg [] W W' := by
  obtain ⟨qa, ql, qc, rfl⟩ : ∃ qa ql qc, rv = .slice qa ql qc := by obtain ⟨a, c, he, _⟩ := reads_slice hr.1; exact ⟨_, _, _, he⟩
  obtain rfl : ql = rec.length := by obtain ⟨_, _, he, _⟩ := reads_slice hr.1; simp at he; exact he.2.1
  obtain ⟨o0, ho0⟩ : ∃ o0, writesI k = o0 := ⟨_, rfl⟩
  obtain ⟨o1, ho1⟩ : ∃ o1, readsI k = o1 := ⟨_, rfl⟩
  have HW0 := Lib.hid ho0
  have HW1 := Lib.hid ho1
  have HO := Lib.hid h
  have HR := Lib.hid hR
  have hn0 : o1 ≠ o0 := by rw [← ho0, ← ho1]; unfold readsI writesI; split <;> omega
  have hb0 : (op == o0) = false := by rw [hop, ho1]; simpa using hn0
  have hb1 : (op != o0) = true := by rw [hop, ho1]; simpa using hn0
  have hb2 : (op == o1) = true := by rw [← ho1]; simpa using hop
  have hb3 : (op != o1) = false := by rw [← ho1]; simpa using hop
  clear h hR hr ho0 ho1 hop hn0
  go_enter Try.func18, Try.ntmps18
  go_wp2_with (first | (go_at_call 35; refine (rRight_any k w s c st ia il ic wr ra rl rc HO.out _).mono ?_; rintro e w1 ⟨rfl, hc⟩; rw [HR.out]; have HC := Lib.hid (((Chg.refl [] W).alloc _).trans hc); have HB := Lib.hid ((Blk.new W #[.int .i64 k, .int .i64 w, .int .i64 s, .int .i64 c, .int .u32 st, .slice ia il ic, .int .i64 wr, .slice ra rl rc] 26).keep hc (by simp)); clear hc; have e0 : w1.cell? ⟨W.heap.size, 0, none⟩ = some (.int .i64 k) := HB.out.cell rfl; have e1 : w1.cell? ⟨W.heap.size, 1, none⟩ = some (.int .i64 w) := HB.out.cell rfl; have e2 : w1.cell? ⟨W.heap.size, 2, none⟩ = some (.int .i64 s) := HB.out.cell rfl; have e3 : w1.cell? ⟨W.heap.size, 3, none⟩ = some (.int .i64 c) := HB.out.cell rfl; have e4 : w1.cell? ⟨W.heap.size, 4, none⟩ = some (.int .u32 st) := HB.out.cell rfl; have e5 : w1.cell? ⟨W.heap.size, 5, none⟩ = some (.slice ia il ic) := HB.out.cell rfl; have e6 : w1.cell? ⟨W.heap.size, 6, none⟩ = some (.int .i64 wr) := HB.out.cell rfl; have e7 : w1.cell? ⟨W.heap.size, 7, none⟩ = some (.slice ra rl rc) := HB.out.cell rfl) | (go_at_call 36; refine (rWrites_any k _).mono ?_; rintro e wv ⟨rfl, rfl⟩; rw [HW0.out]) | (go_at_call 37; refine (rReads_any k _).mono ?_; rintro e wv ⟨rfl, rfl⟩; rw [HW1.out]))
  go_ret2
  exact ⟨rfl, HC.out⟩
set_option maxHeartbeats 2000000 in
theorem bad_r_pos (k w s c st : Int) (ia : Option Addr) (il ic : Nat) (wr : Int) (ra : Option Addr) (rl rc : Nat) (at_ op rd_ : Int) (rv : Value) (rec : List Int) (W : World) (hr : ReadsW W rv rec) (h : ObjW k w s c st il rl) (hR : rightB k w s c st il rl = true) (ha : ¬ at_ < 0) (hop : op = readsI k) (hd : ¬ rd_ < 0) (hd2 : rd_ ≥ (rl : Int)) :
    Calls Try.prog 18 #[.agg #[.int .i64 k, .int .i64 w, .int .i64 s, .int .i64 c, .int .u32 st, .slice ia il ic, .int .i64 wr, .slice ra rl rc], .int .i64 at_, .int .i64 op, .int .i64 rd_, rv] W fun e W' => e = .returned (.tuple #[.pointer none, .int .i64 5]) ∧ Chg [] W W' := by
  obtain ⟨qa, ql, qc, rfl⟩ : ∃ qa ql qc, rv = .slice qa ql qc := by obtain ⟨a, c, he, _⟩ := reads_slice hr.1; exact ⟨_, _, _, he⟩
  obtain rfl : ql = rec.length := by obtain ⟨_, _, he, _⟩ := reads_slice hr.1; simp at he; exact he.2.1
  obtain ⟨o0, ho0⟩ : ∃ o0, writesI k = o0 := ⟨_, rfl⟩
  obtain ⟨o1, ho1⟩ : ∃ o1, readsI k = o1 := ⟨_, rfl⟩
  have HW0 := Lib.hid ho0
  have HW1 := Lib.hid ho1
  have HO := Lib.hid h
  have HR := Lib.hid hR
  have hn0 : o1 ≠ o0 := by rw [← ho0, ← ho1]; unfold readsI writesI; split <;> omega
  have hb0 : (op == o0) = false := by rw [hop, ho1]; simpa using hn0
  have hb1 : (op != o0) = true := by rw [hop, ho1]; simpa using hn0
  have hb2 : (op == o1) = true := by rw [← ho1]; simpa using hop
  have hb3 : (op != o1) = false := by rw [← ho1]; simpa using hop
  clear h hR hr ho0 ho1 hop hn0
  go_enter Try.func18, Try.ntmps18
  go_wp2_with (first | (go_at_call 35; refine (rRight_any k w s c st ia il ic wr ra rl rc HO.out _).mono ?_; rintro e w1 ⟨rfl, hc⟩; rw [HR.out]; have HC := Lib.hid (((Chg.refl [] W).alloc _).trans hc); have HB := Lib.hid ((Blk.new W #[.int .i64 k, .int .i64 w, .int .i64 s, .int .i64 c, .int .u32 st, .slice ia il ic, .int .i64 wr, .slice ra rl rc] 26).keep hc (by simp)); clear hc; have e0 : w1.cell? ⟨W.heap.size, 0, none⟩ = some (.int .i64 k) := HB.out.cell rfl; have e1 : w1.cell? ⟨W.heap.size, 1, none⟩ = some (.int .i64 w) := HB.out.cell rfl; have e2 : w1.cell? ⟨W.heap.size, 2, none⟩ = some (.int .i64 s) := HB.out.cell rfl; have e3 : w1.cell? ⟨W.heap.size, 3, none⟩ = some (.int .i64 c) := HB.out.cell rfl; have e4 : w1.cell? ⟨W.heap.size, 4, none⟩ = some (.int .u32 st) := HB.out.cell rfl; have e5 : w1.cell? ⟨W.heap.size, 5, none⟩ = some (.slice ia il ic) := HB.out.cell rfl; have e6 : w1.cell? ⟨W.heap.size, 6, none⟩ = some (.int .i64 wr) := HB.out.cell rfl; have e7 : w1.cell? ⟨W.heap.size, 7, none⟩ = some (.slice ra rl rc) := HB.out.cell rfl) | (go_at_call 36; refine (rWrites_any k _).mono ?_; rintro e wv ⟨rfl, rfl⟩; rw [HW0.out]) | (go_at_call 37; refine (rReads_any k _).mono ?_; rintro e wv ⟨rfl, rfl⟩; rw [HW1.out]))
  go_ret2
  exact ⟨rfl, HC.out⟩
set_option maxHeartbeats 2000000 in
theorem bad_r_len (k w s c st : Int) (ia : Option Addr) (il ic : Nat) (wr : Int) (ra : Option Addr) (rl rc : Nat) (at_ op rd_ : Int) (rv : Value) (rec : List Int) (W : World) (hr : ReadsW W rv rec) (h : ObjW k w s c st il rl) (hR : rightB k w s c st il rl = true) (ha : ¬ at_ < 0) (hop : op = readsI k) (hd : ¬ rd_ < 0) (hd2 : ¬ rd_ ≥ (rl : Int)) (hn : rec.length ≠ 0) :
    Calls Try.prog 18 #[.agg #[.int .i64 k, .int .i64 w, .int .i64 s, .int .i64 c, .int .u32 st, .slice ia il ic, .int .i64 wr, .slice ra rl rc], .int .i64 at_, .int .i64 op, .int .i64 rd_, rv] W fun e W' => e = .returned (.tuple #[.pointer none, .int .i64 4]) ∧ Chg [] W W' := by
  obtain ⟨qa, ql, qc, rfl⟩ : ∃ qa ql qc, rv = .slice qa ql qc := by obtain ⟨a, c, he, _⟩ := reads_slice hr.1; exact ⟨_, _, _, he⟩
  obtain rfl : ql = rec.length := by obtain ⟨_, _, he, _⟩ := reads_slice hr.1; simp at he; exact he.2.1
  obtain ⟨o0, ho0⟩ : ∃ o0, writesI k = o0 := ⟨_, rfl⟩
  obtain ⟨o1, ho1⟩ : ∃ o1, readsI k = o1 := ⟨_, rfl⟩
  have HW0 := Lib.hid ho0
  have HW1 := Lib.hid ho1
  have HO := Lib.hid h
  have HR := Lib.hid hR
  have hn0 : o1 ≠ o0 := by rw [← ho0, ← ho1]; unfold readsI writesI; split <;> omega
  have hb0 : (op == o0) = false := by rw [hop, ho1]; simpa using hn0
  have hb1 : (op != o0) = true := by rw [hop, ho1]; simpa using hn0
  have hb2 : (op == o1) = true := by rw [← ho1]; simpa using hop
  have hb3 : (op != o1) = false := by rw [← ho1]; simpa using hop
  have hl2 : (0 : Int) < (rec.length : Int) := by omega
  clear h hR hr ho0 ho1 hop hn0 hn
  go_enter Try.func18, Try.ntmps18
  go_wp2_with (first | (go_at_call 35; refine (rRight_any k w s c st ia il ic wr ra rl rc HO.out _).mono ?_; rintro e w1 ⟨rfl, hc⟩; rw [HR.out]; have HC := Lib.hid (((Chg.refl [] W).alloc _).trans hc); have HB := Lib.hid ((Blk.new W #[.int .i64 k, .int .i64 w, .int .i64 s, .int .i64 c, .int .u32 st, .slice ia il ic, .int .i64 wr, .slice ra rl rc] 26).keep hc (by simp)); clear hc; have e0 : w1.cell? ⟨W.heap.size, 0, none⟩ = some (.int .i64 k) := HB.out.cell rfl; have e1 : w1.cell? ⟨W.heap.size, 1, none⟩ = some (.int .i64 w) := HB.out.cell rfl; have e2 : w1.cell? ⟨W.heap.size, 2, none⟩ = some (.int .i64 s) := HB.out.cell rfl; have e3 : w1.cell? ⟨W.heap.size, 3, none⟩ = some (.int .i64 c) := HB.out.cell rfl; have e4 : w1.cell? ⟨W.heap.size, 4, none⟩ = some (.int .u32 st) := HB.out.cell rfl; have e5 : w1.cell? ⟨W.heap.size, 5, none⟩ = some (.slice ia il ic) := HB.out.cell rfl; have e6 : w1.cell? ⟨W.heap.size, 6, none⟩ = some (.int .i64 wr) := HB.out.cell rfl; have e7 : w1.cell? ⟨W.heap.size, 7, none⟩ = some (.slice ra rl rc) := HB.out.cell rfl) | (go_at_call 36; refine (rWrites_any k _).mono ?_; rintro e wv ⟨rfl, rfl⟩; rw [HW0.out]) | (go_at_call 37; refine (rReads_any k _).mono ?_; rintro e wv ⟨rfl, rfl⟩; rw [HW1.out]))
  go_ret2
  exact ⟨rfl, HC.out⟩

theorem rBegin_bad (k w s c st : Int) (ia : Option Addr) (il ic : Nat) (wr : Int) (ra : Option Addr) (rl rc : Nat) (at_ op rd_ : Int) (rv : Value) (rec : List Int) (W : World) (hr : ReadsW W rv rec) (h : ObjW k w s c st il rl) (hb : begI w rl (sizeI k w s c st il rl) at_ op rd_ (writesI k) (readsI k) rec.length ≠ 0) :
    Calls Try.prog 18 #[.agg #[.int .i64 k, .int .i64 w, .int .i64 s, .int .i64 c, .int .u32 st, .slice ia il ic, .int .i64 wr, .slice ra rl rc], .int .i64 at_, .int .i64 op, .int .i64 rd_, rv] W fun e W' => e = .returned (.tuple #[.pointer none, .int .i64 (begI w rl (sizeI k w s c st il rl) at_ op rd_ (writesI k) (readsI k) rec.length)]) ∧ Chg [] W W' := by
  have hsz := size_right (k := k) (w := w) (s := s) (c := c) (st := st) (il := il) (rl := rl)
  revert hb
  unfold begI
  cases hR : rightB k w s c st il rl
  · rw [hR] at hsz
    rw [if_pos (by simp at hsz; omega)]
    intro _
    exact bad_right k w s c st ia il ic wr ra rl rc at_ op rd_ rv rec W hr h hR
  · rw [hR] at hsz
    by_cases ha : at_ < 0
    · rw [if_pos (by omega)]
      intro _
      exact bad_at k w s c st ia il ic wr ra rl rc at_ op rd_ rv rec W hr h hR ha
    · rw [if_neg (by simp at hsz; omega)]
      by_cases hop : op = writesI k
      · rw [if_pos hop]
        by_cases hd : rd_ < 0
        · rw [if_pos (by omega)]
          intro _
          exact bad_w_neg k w s c st ia il ic wr ra rl rc at_ op rd_ rv rec W hr h hR ha hop hd
        · by_cases hd2 : 0 < rd_
          · rw [if_pos (by omega)]
            intro _
            exact bad_w_pos k w s c st ia il ic wr ra rl rc at_ op rd_ rv rec W hr h hR ha hop hd hd2
          · rw [if_neg (by omega)]
            by_cases hw : (rec.length : Int) ≠ w
            · rw [if_pos hw]
              intro _
              exact bad_w_len k w s c st ia il ic wr ra rl rc at_ op rd_ rv rec W hr h hR ha hop (by omega) hw
            · rw [if_neg hw]
              intro hh
              exact absurd rfl hh
      · rw [if_neg hop]
        by_cases hop1 : op = readsI k
        · rw [if_pos hop1]
          by_cases hd : rd_ < 0
          · rw [if_pos (by omega)]
            intro _
            exact bad_r_neg k w s c st ia il ic wr ra rl rc at_ op rd_ rv rec W hr h hR ha hop1 hd
          · by_cases hd2 : rd_ ≥ (rl : Int)
            · rw [if_pos (by omega)]
              intro _
              exact bad_r_pos k w s c st ia il ic wr ra rl rc at_ op rd_ rv rec W hr h hR ha hop1 hd hd2
            · rw [if_neg (by omega)]
              by_cases hn : rec.length ≠ 0
              · rw [if_pos hn]
                intro _
                exact bad_r_len k w s c st ia il ic wr ra rl rc at_ op rd_ rv rec W hr h hR ha hop1 hd hd2 hn
              · rw [if_neg hn]
                intro hh
                exact absurd rfl hh
        · rw [if_neg hop1]
          intro _
          exact bad_call k w s c st ia il ic wr ra rl rc at_ op rd_ rv rec W hr h hR ha hop hop1
set_option maxHeartbeats 4000000 in
theorem rBegin_w (k w s c st : Int) (ia : Option Addr) (il ic : Nat) (wr : Int) (ra : Option Addr) (rl rc : Nat) (at_ op rd_ : Int) (rv : Value) (rec : List Int) (W : World) (hr : ReadsW W rv rec) (hrl : rec.length ≤ 1000) (h : ObjW k w s c st il rl) (hR : rightB k w s c st il rl = true) (ha : ¬ at_ < 0) (hop : op = writesI k) (hd : rd_ = 0) (hw : (rec.length : Int) = w) :
    Calls Try.prog 18 #[.agg #[.int .i64 k, .int .i64 w, .int .i64 s, .int .i64 c, .int .u32 st, .slice ia il ic, .int .i64 wr, .slice ra rl rc], .int .i64 at_, .int .i64 op, .int .i64 rd_, rv] W fun e W' => ∃ bx v, e = .returned (.tuple #[.pointer (some ⟨bx, 0, none⟩), .int .i64 0]) ∧ RAt W' bx ({ k := k, w := w, s := s, c := c, st := st, ia := ia, il := il, ic := ic, wr := wr, ra := ra, rl := rl, rc := rc, at_ := at_, op := op, reader := rd_, row := 0, i := 0, tries := 0, code := 0, steps := 0, a := 0, b := 0, u := fun _ => false, rcd := v, over := false } : ROp) ∧ OwnW W' W.heap.size v rec ∧ (∀ y, v.ownBlock = some y → y ≠ bx) ∧ W.heap.size ≤ bx ∧ Chg [] W W' := by
  obtain ⟨qa, ql, qc, rfl⟩ : ∃ qa ql qc, rv = .slice qa ql qc := by obtain ⟨a, c, he, _⟩ := reads_slice hr.1; exact ⟨_, _, _, he⟩
  obtain rfl : ql = rec.length := by obtain ⟨_, _, he, _⟩ := reads_slice hr.1; simp at he; exact he.2.1
  obtain ⟨i0, hi0, hz0, hz1, hz2⟩ := info_parts mem.info32
  have HI0 : Hid (Try.prog.info? 22 = some i0 ∧ i0.zero = some (.int .u32 0) ∧ i0.size = 1 ∧ i0.bytes = 4) := Lib.hid ⟨hi0, hz0, hz1, hz2⟩
  clear hi0 hz0 hz1 hz2
  obtain ⟨o0, ho0⟩ : ∃ o0, writesI k = o0 := ⟨_, rfl⟩
  obtain ⟨o1, ho1⟩ : ∃ o1, readsI k = o1 := ⟨_, rfl⟩
  have HW0 := Lib.hid ho0
  have HW1 := Lib.hid ho1
  have HO := Lib.hid h
  have HR := Lib.hid hR
  have HREC := Lib.hid hr
  have HRL := Lib.hid hrl
  subst hd
  have hrl2 : ¬ ((0 : Int) ≥ (rl : Int)) := by have := rightB_bd hR; omega
  have hl1 : ((rec.length : Int) != w) = false := by simpa using hw
  have hb0 : (op == o0) = true := by rw [← ho0]; simpa using hop
  have hb1 : (op != o0) = false := by rw [← ho0]; simpa using hop
  clear hop hw
  clear h hR hr ho0 ho1 hrl
  go_enter Try.func18, Try.ntmps18
  go_wp2_with (first | (go_at_call 35; refine (rRight_any k w s c st ia il ic wr ra rl rc HO.out _).mono ?_; rintro e w1 ⟨rfl, hc⟩; rw [HR.out]; have HC := Lib.hid (((Chg.refl [] W).alloc _).trans hc); have HB := Lib.hid ((Blk.new W #[.int .i64 k, .int .i64 w, .int .i64 s, .int .i64 c, .int .u32 st, .slice ia il ic, .int .i64 wr, .slice ra rl rc] 26).keep hc (by simp)); clear hc; have e0 : w1.cell? ⟨W.heap.size, 0, none⟩ = some (.int .i64 k) := HB.out.cell rfl; have e1 : w1.cell? ⟨W.heap.size, 1, none⟩ = some (.int .i64 w) := HB.out.cell rfl; have e2 : w1.cell? ⟨W.heap.size, 2, none⟩ = some (.int .i64 s) := HB.out.cell rfl; have e3 : w1.cell? ⟨W.heap.size, 3, none⟩ = some (.int .i64 c) := HB.out.cell rfl; have e4 : w1.cell? ⟨W.heap.size, 4, none⟩ = some (.int .u32 st) := HB.out.cell rfl; have e5 : w1.cell? ⟨W.heap.size, 5, none⟩ = some (.slice ia il ic) := HB.out.cell rfl; have e6 : w1.cell? ⟨W.heap.size, 6, none⟩ = some (.int .i64 wr) := HB.out.cell rfl; have e7 : w1.cell? ⟨W.heap.size, 7, none⟩ = some (.slice ra rl rc) := HB.out.cell rfl) | (go_at_call 36; refine (rWrites_any k _).mono ?_; rintro e wv ⟨rfl, rfl⟩; rw [HW0.out]) | (go_at_call 37; refine (rReads_any k _).mono ?_; rintro e wv ⟨rfl, rfl⟩; rw [HW1.out]))
  clear e0 e1 e2 e3 e4 e5 e6 e7
  have eS0 : w1.cell? ⟨W.heap.size, 0, none⟩ = some (.int .i64 k) := HB.out.cell rfl
  have eS1 : w1.cell? ⟨W.heap.size, 1, none⟩ = some (.int .i64 w) := HB.out.cell rfl
  have eS2 : w1.cell? ⟨W.heap.size, 2, none⟩ = some (.int .i64 s) := HB.out.cell rfl
  have eS3 : w1.cell? ⟨W.heap.size, 3, none⟩ = some (.int .i64 c) := HB.out.cell rfl
  have eS4 : w1.cell? ⟨W.heap.size, 4, none⟩ = some (.int .u32 st) := HB.out.cell rfl
  have eS5 : w1.cell? ⟨W.heap.size, 5, none⟩ = some (.slice ia il ic) := HB.out.cell rfl
  have eS6 : w1.cell? ⟨W.heap.size, 6, none⟩ = some (.int .i64 wr) := HB.out.cell rfl
  have eS7 : w1.cell? ⟨W.heap.size, 7, none⟩ = some (.slice ra rl rc) := HB.out.cell rfl
  have KEEP := Lib.hid (fun (V : World) (h : Chg [] w1 V) => (⟨h.keep eS0 (by simp), h.keep eS1 (by simp), h.keep eS2 (by simp), h.keep eS3 (by simp), h.keep eS4 (by simp), h.keep eS5 (by simp), h.keep eS6 (by simp), h.keep eS7 (by simp), Lib.hid h⟩ : (fun V : World => V.cell? ⟨W.heap.size, 0, none⟩ = some (.int .i64 k) ∧ V.cell? ⟨W.heap.size, 1, none⟩ = some (.int .i64 w) ∧ V.cell? ⟨W.heap.size, 2, none⟩ = some (.int .i64 s) ∧ V.cell? ⟨W.heap.size, 3, none⟩ = some (.int .i64 c) ∧ V.cell? ⟨W.heap.size, 4, none⟩ = some (.int .u32 st) ∧ V.cell? ⟨W.heap.size, 5, none⟩ = some (.slice ia il ic) ∧ V.cell? ⟨W.heap.size, 6, none⟩ = some (.int .i64 wr) ∧ V.cell? ⟨W.heap.size, 7, none⟩ = some (.slice ra rl rc) ∧ Hid (Chg [] w1 V)) V))
  clear eS0 eS1 eS2 eS3 eS4 eS5 eS6 eS7
  have hHeld : (fun V : World => V.cell? ⟨W.heap.size, 0, none⟩ = some (.int .i64 k) ∧ V.cell? ⟨W.heap.size, 1, none⟩ = some (.int .i64 w) ∧ V.cell? ⟨W.heap.size, 2, none⟩ = some (.int .i64 s) ∧ V.cell? ⟨W.heap.size, 3, none⟩ = some (.int .i64 c) ∧ V.cell? ⟨W.heap.size, 4, none⟩ = some (.int .u32 st) ∧ V.cell? ⟨W.heap.size, 5, none⟩ = some (.slice ia il ic) ∧ V.cell? ⟨W.heap.size, 6, none⟩ = some (.int .i64 wr) ∧ V.cell? ⟨W.heap.size, 7, none⟩ = some (.slice ra rl rc) ∧ Hid (Chg [] w1 V)) w1.drew := KEEP.out _ (Chg.refl _ _).drew
  refine wp_region_plan (fun V : World => V.cell? ⟨W.heap.size, 0, none⟩ = some (.int .i64 k) ∧ V.cell? ⟨W.heap.size, 1, none⟩ = some (.int .i64 w) ∧ V.cell? ⟨W.heap.size, 2, none⟩ = some (.int .i64 s) ∧ V.cell? ⟨W.heap.size, 3, none⟩ = some (.int .i64 c) ∧ V.cell? ⟨W.heap.size, 4, none⟩ = some (.int .u32 st) ∧ V.cell? ⟨W.heap.size, 5, none⟩ = some (.slice ia il ic) ∧ V.cell? ⟨W.heap.size, 6, none⟩ = some (.int .i64 wr) ∧ V.cell? ⟨W.heap.size, 7, none⟩ = some (.slice ra rl rc) ∧ Hid (Chg [] w1 V)) [(0, true, some 70), (1, true, some 71), (2, true, some 72), (3, true, some 73), (5, true, some 75), (4, false, some 74), (6, false, some 76), (7, true, some 77), (8, false, some 78), (9, true, some 10), (10, true, some 11)] (by kernel_rfl) (by kernel_rfl) (by kernel_rfl) (by kernel_rfl) (fun d c a v w h => by cases d <;> exact h) hHeld ?_
  refine planWp_load (v := .agg #[.int .i64 k, .int .i64 w, .int .i64 s, .int .i64 c, .int .u32 st, .slice ia il ic, .int .i64 wr, .slice ra rl rc]) rfl rfl ?_ 26 (.tmp 5) rfl (.pointer (some ⟨W.heap.size, 0, none⟩)) rfl (fun u hu => run_loadAt_mid u W.heap.size 0 26 [.int .i64 k, .int .i64 w, .int .i64 s, .int .i64 c, .int .u32 st, .slice ia il ic, .int .i64 wr, .slice ra rl rc] _ (fun j v hj => by rw [Nat.zero_add]; exact hu.2.2.2.2.2.2.2.2.out.keep (HB.out.cell (by rcases j with _ | _ | _ | _ | _ | _ | _ | _ | j <;> first | exact hj | simp at hj)) (by simp)) Try.underlying26 rfl objSize) ?_
  · rfl
  try simp only [Act.put, List.setIfInBounds_toArray, List.set_cons_zero, List.set_cons_succ]
  repeat (refine planWp_read (v := ?_) rfl rfl ?_ ?_ ?_; rotate_left; (focus rfl); (focus (intro u hSw; (try dsimp only at hSw); go_simp; (try with_reducible rfl))); (try simp only [Act.put, List.setIfInBounds_toArray, List.set_cons_zero, List.set_cons_succ]))
  refine planWp_do rfl rfl ?_ (fun K hK => ?_)
  · rfl
  go_simp
  refine hK.out _ _ (KEEP.out _ ((Chg.refl [] w1).drew.alloc _)) (fun hHeld2 => ?_)
  clear hK K hHeld
  have hHeld := hHeld2
  clear hHeld2
  try simp only [Act.put, List.setIfInBounds_toArray, List.set_cons_zero, List.set_cons_succ]
  refine planWp_do rfl rfl ?_ (fun K hK => ?_)
  · rfl
  refine wp_append_any _ (.tmp 74) (.tmp 75) 23 rfl w1.drew.heap.size 22 i0 (.int .u32 0) 1 4 Try.underlying23 HI0.out.1 HI0.out.2.1 HI0.out.2.2.1 HI0.out.2.2.2 rfl (by decide) (.slice (some ⟨w1.drew.heap.size, 0, none⟩) 0 0) 0 [] rfl (World.ownsRow_lit w1.drew #[] 0 (Nat.le_refl _) (Nat.zero_le _) rfl) (.slice qa rec.length qc) rec.length _ rfl ((HREC.out.chg (HC.out.trans (Chg.refl [] w1).drew)).1.alloc _) (ints_oneCell _ _) (by have := HRL.out; unfold maxLen; omega) (by have := HRL.out; omega) (by simp) ?_
  intro v2 w6 hown2 hg2
  simp only [Nat.zero_add, List.nil_append] at hown2
  have hc2 : Chg [] w1 w6 := ((Chg.refl _ _).drew.alloc _).grown hg2 (by simp [Value.ownBlock])
  clear hg2
  obtain ⟨a2, cc2, rfl, _⟩ := reads_slice (Reads.of_own hown2 (by decide))
  have HO2 : Hid (OwnW w6 w1.heap.size (.slice a2 rec.length cc2) rec) := Lib.hid hown2
  have HC2 := Lib.hid hc2
  refine hK.out _ _ (KEEP.out _ hc2) (fun hHeld2 => ?_)
  clear hK K hHeld hc2 hown2
  have hHeld := hHeld2
  clear hHeld2
  try simp only [Act.put, List.setIfInBounds_toArray, List.set_cons_zero, List.set_cons_succ]
  repeat (refine planWp_read (v := ?_) rfl rfl ?_ ?_ ?_; rotate_left; (focus rfl); (focus (intro u hSw; (try dsimp only at hSw); go_simp; (try with_reducible rfl))); (try simp only [Act.put, List.setIfInBounds_toArray, List.set_cons_zero, List.set_cons_succ]))
  refine planWp_do rfl rfl ?_ (fun K hK => ?_)
  · rfl
  go_simp
  refine hK.out _ _ (KEEP.out _ (HC2.out.alloc _)) (fun hHeld2 => ?_)
  clear hK K hHeld hHeld2 KEEP
  try simp only [Act.put, List.setIfInBounds_toArray, List.set_cons_zero, List.set_cons_succ]
  repeat (refine planWp_read (v := ?_) rfl rfl ?_ ?_ ?_; rotate_left; (focus rfl); (focus (intro u hSw; (try dsimp only at hSw); go_simp; (try with_reducible rfl))); (try simp only [Act.put, List.setIfInBounds_toArray, List.set_cons_zero, List.set_cons_succ]))
  refine planWp_nil ?_
  go_wp2_with fail
  go_ret2
  have hsz : w1.heap.size ≤ w6.heap.size := HC2.out.size
  refine ⟨w6.heap.size, _, rfl, Blk.new w6 _ 45, own_base (mem.own_chg HO2.out ((Chg.refl [] w6).alloc _) (by simp)) HC.out.size, fun y hy => ?_, Nat.le_trans HC.out.size hsz, (HC.out.trans HC2.out).alloc _⟩
  have := own_lt (own_base HO2.out (Nat.zero_le _)) hy
  omega
set_option maxHeartbeats 4000000 in
theorem rBegin_r (k w s c st : Int) (ia : Option Addr) (il ic : Nat) (wr : Int) (ra : Option Addr) (rl rc : Nat) (at_ op rd_ : Int) (rv : Value) (rec : List Int) (W : World) (hr : ReadsW W rv rec) (hrl : rec.length ≤ 1000) (h : ObjW k w s c st il rl) (hR : rightB k w s c st il rl = true) (ha : ¬ at_ < 0) (hop : op = readsI k) (hd : ¬ rd_ < 0) (hd2 : ¬ rd_ ≥ (rl : Int)) (hn : rec.length = 0) :
    Calls Try.prog 18 #[.agg #[.int .i64 k, .int .i64 w, .int .i64 s, .int .i64 c, .int .u32 st, .slice ia il ic, .int .i64 wr, .slice ra rl rc], .int .i64 at_, .int .i64 op, .int .i64 rd_, rv] W fun e W' => ∃ bx v, e = .returned (.tuple #[.pointer (some ⟨bx, 0, none⟩), .int .i64 0]) ∧ RAt W' bx ({ k := k, w := w, s := s, c := c, st := st, ia := ia, il := il, ic := ic, wr := wr, ra := ra, rl := rl, rc := rc, at_ := at_, op := op, reader := rd_, row := 0, i := 0, tries := 0, code := 0, steps := 0, a := 0, b := 0, u := fun _ => false, rcd := v, over := false } : ROp) ∧ OwnW W' W.heap.size v rec ∧ (∀ y, v.ownBlock = some y → y ≠ bx) ∧ W.heap.size ≤ bx ∧ Chg [] W W' := by
  obtain ⟨qa, ql, qc, rfl⟩ : ∃ qa ql qc, rv = .slice qa ql qc := by obtain ⟨a, c, he, _⟩ := reads_slice hr.1; exact ⟨_, _, _, he⟩
  obtain rfl : ql = rec.length := by obtain ⟨_, _, he, _⟩ := reads_slice hr.1; simp at he; exact he.2.1
  obtain ⟨i0, hi0, hz0, hz1, hz2⟩ := info_parts mem.info32
  have HI0 : Hid (Try.prog.info? 22 = some i0 ∧ i0.zero = some (.int .u32 0) ∧ i0.size = 1 ∧ i0.bytes = 4) := Lib.hid ⟨hi0, hz0, hz1, hz2⟩
  clear hi0 hz0 hz1 hz2
  obtain ⟨o0, ho0⟩ : ∃ o0, writesI k = o0 := ⟨_, rfl⟩
  obtain ⟨o1, ho1⟩ : ∃ o1, readsI k = o1 := ⟨_, rfl⟩
  have HW0 := Lib.hid ho0
  have HW1 := Lib.hid ho1
  have HO := Lib.hid h
  have HR := Lib.hid hR
  have HREC := Lib.hid hr
  have HRL := Lib.hid hrl
  have hn0 : o1 ≠ o0 := by rw [← ho0, ← ho1]; unfold readsI writesI; split <;> omega
  have hb0 : (op == o0) = false := by rw [hop, ho1]; simpa using hn0
  have hb1 : (op != o0) = true := by rw [hop, ho1]; simpa using hn0
  have hb2 : (op == o1) = true := by rw [← ho1]; simpa using hop
  have hb3 : (op != o1) = false := by rw [← ho1]; simpa using hop
  have hl2 : ¬ ((0 : Int) < (rec.length : Int)) := by omega
  clear hop hn0 hn
  clear h hR hr ho0 ho1 hrl
  go_enter Try.func18, Try.ntmps18
  go_wp2_with (first | (go_at_call 35; refine (rRight_any k w s c st ia il ic wr ra rl rc HO.out _).mono ?_; rintro e w1 ⟨rfl, hc⟩; rw [HR.out]; have HC := Lib.hid (((Chg.refl [] W).alloc _).trans hc); have HB := Lib.hid ((Blk.new W #[.int .i64 k, .int .i64 w, .int .i64 s, .int .i64 c, .int .u32 st, .slice ia il ic, .int .i64 wr, .slice ra rl rc] 26).keep hc (by simp)); clear hc; have e0 : w1.cell? ⟨W.heap.size, 0, none⟩ = some (.int .i64 k) := HB.out.cell rfl; have e1 : w1.cell? ⟨W.heap.size, 1, none⟩ = some (.int .i64 w) := HB.out.cell rfl; have e2 : w1.cell? ⟨W.heap.size, 2, none⟩ = some (.int .i64 s) := HB.out.cell rfl; have e3 : w1.cell? ⟨W.heap.size, 3, none⟩ = some (.int .i64 c) := HB.out.cell rfl; have e4 : w1.cell? ⟨W.heap.size, 4, none⟩ = some (.int .u32 st) := HB.out.cell rfl; have e5 : w1.cell? ⟨W.heap.size, 5, none⟩ = some (.slice ia il ic) := HB.out.cell rfl; have e6 : w1.cell? ⟨W.heap.size, 6, none⟩ = some (.int .i64 wr) := HB.out.cell rfl; have e7 : w1.cell? ⟨W.heap.size, 7, none⟩ = some (.slice ra rl rc) := HB.out.cell rfl) | (go_at_call 36; refine (rWrites_any k _).mono ?_; rintro e wv ⟨rfl, rfl⟩; rw [HW0.out]) | (go_at_call 37; refine (rReads_any k _).mono ?_; rintro e wv ⟨rfl, rfl⟩; rw [HW1.out]))
  clear e0 e1 e2 e3 e4 e5 e6 e7
  have eS0 : w1.cell? ⟨W.heap.size, 0, none⟩ = some (.int .i64 k) := HB.out.cell rfl
  have eS1 : w1.cell? ⟨W.heap.size, 1, none⟩ = some (.int .i64 w) := HB.out.cell rfl
  have eS2 : w1.cell? ⟨W.heap.size, 2, none⟩ = some (.int .i64 s) := HB.out.cell rfl
  have eS3 : w1.cell? ⟨W.heap.size, 3, none⟩ = some (.int .i64 c) := HB.out.cell rfl
  have eS4 : w1.cell? ⟨W.heap.size, 4, none⟩ = some (.int .u32 st) := HB.out.cell rfl
  have eS5 : w1.cell? ⟨W.heap.size, 5, none⟩ = some (.slice ia il ic) := HB.out.cell rfl
  have eS6 : w1.cell? ⟨W.heap.size, 6, none⟩ = some (.int .i64 wr) := HB.out.cell rfl
  have eS7 : w1.cell? ⟨W.heap.size, 7, none⟩ = some (.slice ra rl rc) := HB.out.cell rfl
  have KEEP := Lib.hid (fun (V : World) (h : Chg [] w1 V) => (⟨h.keep eS0 (by simp), h.keep eS1 (by simp), h.keep eS2 (by simp), h.keep eS3 (by simp), h.keep eS4 (by simp), h.keep eS5 (by simp), h.keep eS6 (by simp), h.keep eS7 (by simp), Lib.hid h⟩ : (fun V : World => V.cell? ⟨W.heap.size, 0, none⟩ = some (.int .i64 k) ∧ V.cell? ⟨W.heap.size, 1, none⟩ = some (.int .i64 w) ∧ V.cell? ⟨W.heap.size, 2, none⟩ = some (.int .i64 s) ∧ V.cell? ⟨W.heap.size, 3, none⟩ = some (.int .i64 c) ∧ V.cell? ⟨W.heap.size, 4, none⟩ = some (.int .u32 st) ∧ V.cell? ⟨W.heap.size, 5, none⟩ = some (.slice ia il ic) ∧ V.cell? ⟨W.heap.size, 6, none⟩ = some (.int .i64 wr) ∧ V.cell? ⟨W.heap.size, 7, none⟩ = some (.slice ra rl rc) ∧ Hid (Chg [] w1 V)) V))
  clear eS0 eS1 eS2 eS3 eS4 eS5 eS6 eS7
  have hHeld : (fun V : World => V.cell? ⟨W.heap.size, 0, none⟩ = some (.int .i64 k) ∧ V.cell? ⟨W.heap.size, 1, none⟩ = some (.int .i64 w) ∧ V.cell? ⟨W.heap.size, 2, none⟩ = some (.int .i64 s) ∧ V.cell? ⟨W.heap.size, 3, none⟩ = some (.int .i64 c) ∧ V.cell? ⟨W.heap.size, 4, none⟩ = some (.int .u32 st) ∧ V.cell? ⟨W.heap.size, 5, none⟩ = some (.slice ia il ic) ∧ V.cell? ⟨W.heap.size, 6, none⟩ = some (.int .i64 wr) ∧ V.cell? ⟨W.heap.size, 7, none⟩ = some (.slice ra rl rc) ∧ Hid (Chg [] w1 V)) w1.drew := KEEP.out _ (Chg.refl _ _).drew
  refine wp_region_plan (fun V : World => V.cell? ⟨W.heap.size, 0, none⟩ = some (.int .i64 k) ∧ V.cell? ⟨W.heap.size, 1, none⟩ = some (.int .i64 w) ∧ V.cell? ⟨W.heap.size, 2, none⟩ = some (.int .i64 s) ∧ V.cell? ⟨W.heap.size, 3, none⟩ = some (.int .i64 c) ∧ V.cell? ⟨W.heap.size, 4, none⟩ = some (.int .u32 st) ∧ V.cell? ⟨W.heap.size, 5, none⟩ = some (.slice ia il ic) ∧ V.cell? ⟨W.heap.size, 6, none⟩ = some (.int .i64 wr) ∧ V.cell? ⟨W.heap.size, 7, none⟩ = some (.slice ra rl rc) ∧ Hid (Chg [] w1 V)) [(0, true, some 70), (1, true, some 71), (2, true, some 72), (3, true, some 73), (5, true, some 75), (4, false, some 74), (6, false, some 76), (7, true, some 77), (8, false, some 78), (9, true, some 10), (10, true, some 11)] (by kernel_rfl) (by kernel_rfl) (by kernel_rfl) (by kernel_rfl) (fun d c a v w h => by cases d <;> exact h) hHeld ?_
  refine planWp_load (v := .agg #[.int .i64 k, .int .i64 w, .int .i64 s, .int .i64 c, .int .u32 st, .slice ia il ic, .int .i64 wr, .slice ra rl rc]) rfl rfl ?_ 26 (.tmp 5) rfl (.pointer (some ⟨W.heap.size, 0, none⟩)) rfl (fun u hu => run_loadAt_mid u W.heap.size 0 26 [.int .i64 k, .int .i64 w, .int .i64 s, .int .i64 c, .int .u32 st, .slice ia il ic, .int .i64 wr, .slice ra rl rc] _ (fun j v hj => by rw [Nat.zero_add]; exact hu.2.2.2.2.2.2.2.2.out.keep (HB.out.cell (by rcases j with _ | _ | _ | _ | _ | _ | _ | _ | j <;> first | exact hj | simp at hj)) (by simp)) Try.underlying26 rfl objSize) ?_
  · rfl
  try simp only [Act.put, List.setIfInBounds_toArray, List.set_cons_zero, List.set_cons_succ]
  repeat (refine planWp_read (v := ?_) rfl rfl ?_ ?_ ?_; rotate_left; (focus rfl); (focus (intro u hSw; (try dsimp only at hSw); go_simp; (try with_reducible rfl))); (try simp only [Act.put, List.setIfInBounds_toArray, List.set_cons_zero, List.set_cons_succ]))
  refine planWp_do rfl rfl ?_ (fun K hK => ?_)
  · rfl
  go_simp
  refine hK.out _ _ (KEEP.out _ ((Chg.refl [] w1).drew.alloc _)) (fun hHeld2 => ?_)
  clear hK K hHeld
  have hHeld := hHeld2
  clear hHeld2
  try simp only [Act.put, List.setIfInBounds_toArray, List.set_cons_zero, List.set_cons_succ]
  refine planWp_do rfl rfl ?_ (fun K hK => ?_)
  · rfl
  refine wp_append_any _ (.tmp 74) (.tmp 75) 23 rfl w1.drew.heap.size 22 i0 (.int .u32 0) 1 4 Try.underlying23 HI0.out.1 HI0.out.2.1 HI0.out.2.2.1 HI0.out.2.2.2 rfl (by decide) (.slice (some ⟨w1.drew.heap.size, 0, none⟩) 0 0) 0 [] rfl (World.ownsRow_lit w1.drew #[] 0 (Nat.le_refl _) (Nat.zero_le _) rfl) (.slice qa rec.length qc) rec.length _ rfl ((HREC.out.chg (HC.out.trans (Chg.refl [] w1).drew)).1.alloc _) (ints_oneCell _ _) (by have := HRL.out; unfold maxLen; omega) (by have := HRL.out; omega) (by simp) ?_
  intro v2 w6 hown2 hg2
  simp only [Nat.zero_add, List.nil_append] at hown2
  have hc2 : Chg [] w1 w6 := ((Chg.refl _ _).drew.alloc _).grown hg2 (by simp [Value.ownBlock])
  clear hg2
  obtain ⟨a2, cc2, rfl, _⟩ := reads_slice (Reads.of_own hown2 (by decide))
  have HO2 : Hid (OwnW w6 w1.heap.size (.slice a2 rec.length cc2) rec) := Lib.hid hown2
  have HC2 := Lib.hid hc2
  refine hK.out _ _ (KEEP.out _ hc2) (fun hHeld2 => ?_)
  clear hK K hHeld hc2 hown2
  have hHeld := hHeld2
  clear hHeld2
  try simp only [Act.put, List.setIfInBounds_toArray, List.set_cons_zero, List.set_cons_succ]
  repeat (refine planWp_read (v := ?_) rfl rfl ?_ ?_ ?_; rotate_left; (focus rfl); (focus (intro u hSw; (try dsimp only at hSw); go_simp; (try with_reducible rfl))); (try simp only [Act.put, List.setIfInBounds_toArray, List.set_cons_zero, List.set_cons_succ]))
  refine planWp_do rfl rfl ?_ (fun K hK => ?_)
  · rfl
  go_simp
  refine hK.out _ _ (KEEP.out _ (HC2.out.alloc _)) (fun hHeld2 => ?_)
  clear hK K hHeld hHeld2 KEEP
  try simp only [Act.put, List.setIfInBounds_toArray, List.set_cons_zero, List.set_cons_succ]
  repeat (refine planWp_read (v := ?_) rfl rfl ?_ ?_ ?_; rotate_left; (focus rfl); (focus (intro u hSw; (try dsimp only at hSw); go_simp; (try with_reducible rfl))); (try simp only [Act.put, List.setIfInBounds_toArray, List.set_cons_zero, List.set_cons_succ]))
  refine planWp_nil ?_
  go_wp2_with fail
  go_ret2
  have hsz : w1.heap.size ≤ w6.heap.size := HC2.out.size
  refine ⟨w6.heap.size, _, rfl, Blk.new w6 _ 45, own_base (mem.own_chg HO2.out ((Chg.refl [] w6).alloc _) (by simp)) HC.out.size, fun y hy => ?_, Nat.le_trans HC.out.size hsz, (HC.out.trans HC2.out).alloc _⟩
  have := own_lt (own_base HO2.out (Nat.zero_le _)) hy
  omega

theorem rBegin_ok (k w s c st : Int) (ia : Option Addr) (il ic : Nat) (wr : Int) (ra : Option Addr) (rl rc : Nat) (at_ op rd_ : Int) (rv : Value) (rec : List Int) (W : World) (hr : ReadsW W rv rec) (hrl : rec.length ≤ 1000) (h : ObjW k w s c st il rl) (hb : begI w rl (sizeI k w s c st il rl) at_ op rd_ (writesI k) (readsI k) rec.length = 0) :
    Calls Try.prog 18 #[.agg #[.int .i64 k, .int .i64 w, .int .i64 s, .int .i64 c, .int .u32 st, .slice ia il ic, .int .i64 wr, .slice ra rl rc], .int .i64 at_, .int .i64 op, .int .i64 rd_, rv] W fun e W' => ∃ bx v, e = .returned (.tuple #[.pointer (some ⟨bx, 0, none⟩), .int .i64 0]) ∧ RAt W' bx ({ k := k, w := w, s := s, c := c, st := st, ia := ia, il := il, ic := ic, wr := wr, ra := ra, rl := rl, rc := rc, at_ := at_, op := op, reader := rd_, row := 0, i := 0, tries := 0, code := 0, steps := 0, a := 0, b := 0, u := fun _ => false, rcd := v, over := false } : ROp) ∧ OwnW W' W.heap.size v rec ∧ (∀ y, v.ownBlock = some y → y ≠ bx) ∧ W.heap.size ≤ bx ∧ Chg [] W W' := by
  have hsz := size_right (k := k) (w := w) (s := s) (c := c) (st := st) (il := il) (rl := rl)
  unfold begI at hb
  by_cases h1 : sizeI k w s c st il rl < 1 ∨ at_ < 0
  · rw [if_pos h1] at hb
    omega
  · rw [if_neg h1] at hb
    have hR := hsz.1.1 (by omega)
    by_cases hop : op = writesI k
    · rw [if_pos hop] at hb
      split at hb
      · omega
      · split at hb
        · omega
        · exact rBegin_w k w s c st ia il ic wr ra rl rc at_ op rd_ rv rec W hr hrl h hR (by omega) hop (by omega) (by omega)
    · rw [if_neg hop] at hb
      split at hb
      · rename_i hop1
        split at hb
        · omega
        · split at hb
          · omega
          · exact rBegin_r k w s c st ia il ic wr ra rl rc at_ op rd_ rv rec W hr hrl h hR (by omega) hop1 (by omega) (by omega) (by omega)
      · omega
end Go.Proofs.Ytjplamoofkcojaa.ref
