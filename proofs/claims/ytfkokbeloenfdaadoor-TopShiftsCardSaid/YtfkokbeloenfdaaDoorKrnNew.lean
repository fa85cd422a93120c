/- Parts joined: KrnZa, KrnZb, KrnZc, KrnZd. -/
import Derived.Test.YtfkokbeloenfdaaDoorKrnZ
import Derived.Lib.BufferMore
/- The kernel: task.Plain, release.Next of plain tasks. -/
namespace Go.Proofs.YtfkokbeloenfdaaDoor.krn
open Go Go.RowKit Go.Proofs.YtfkokbeloenfdaaDoor.kit Go.Shelf
set_option linter.unusedVariables false
set_option linter.unusedSimpArgs false
set_option maxRecDepth 20000
structure PlainT (t : Tk) : Prop where
  kind : t.kind = 1 ∨ (t.kind = 2 ∧ t.offset = 0)
  prio : 0 ≤ t.prio ∧ t.prio ≤ 255
  period : 1 ≤ t.period ∧ t.period ≤ 1048576
  offset : 0 ≤ t.offset ∧ t.offset ≤ 1048576
  deadline : 1 ≤ t.deadline ∧ t.deadline ≤ t.period
  own : 1 ≤ t.own ∧ t.own ≤ 64
def Tk.val (t : Tk) : Value := .agg #[.int .i64 t.kind, .int .i64 t.prio, .int .i64 t.period, .int .i64 t.offset, .int .i64 t.deadline, .int .i64 t.own, t.code]
theorem within_any (n lo hi : Int) (h : lo ≤ n ∧ n ≤ hi) (w : World) : Calls Tryd.prog 35 #[.int .i64 n, .int .i64 lo, .int .i64 hi] w fun e w' => e = .returned (.bool true) ∧ w = w' := by
  obtain ⟨h1, h2⟩ := h
  go_enter Tryd.func35, Tryd.ntmps35
  go_wp2
  go_ret
  exact ⟨by simp [h1, h2], rfl⟩
set_option maxHeartbeats 2000000 in
theorem Plain_any (t : Tk) (hp : PlainT t) (hc : t.code.oneCell' = true) (w : World) : Calls Tryd.prog 18 #[t.val] w fun e w' => e = .returned (.bool true) ∧ Chg [] w w' := by
  obtain ⟨k, p, pe, o, d, ow, code⟩ := t
  obtain ⟨hk, h1, h2, h3, h4, h5⟩ := hp
  simp only at hk h1 h2 h3 h4 h5 hc
  unfold Tk.val
  have H1 := Lib.hid (fun V => within_any p 0 255 h1 V)
  have H2 := Lib.hid (fun V => within_any pe 1 1048576 h2 V)
  have H3 := Lib.hid (fun V => within_any o 0 1048576 h3 V)
  have H4 := Lib.hid (fun V => within_any d 1 pe h4 V)
  have H5 := Lib.hid (fun V => within_any ow 1 64 h5 V)
  have HC : Hid (Chg [] w (w.alloc (.cells #[.int .i64 k, .int .i64 p, .int .i64 pe, .int .i64 o, .int .i64 d, .int .i64 ow, code] 33))) := Lib.hid ((Chg.refl [] w).alloc _)
  clear h1 h2 h3 h4 h5
  rcases hk with rfl | ⟨rfl, rfl⟩
  · go_enter Tryd.func18, Tryd.ntmps18
    go_wp2_with (first | (go_at_call 35; with_reducible refine (H1.out _).mono ?_; rintro e w' ⟨rfl, rfl⟩) | (go_at_call 35; with_reducible refine (H2.out _).mono ?_; rintro e w' ⟨rfl, rfl⟩) | (go_at_call 35; with_reducible refine (H3.out _).mono ?_; rintro e w' ⟨rfl, rfl⟩) | (go_at_call 35; with_reducible refine (H4.out _).mono ?_; rintro e w' ⟨rfl, rfl⟩) | (go_at_call 35; with_reducible refine (H5.out _).mono ?_; rintro e w' ⟨rfl, rfl⟩))
    go_ret
    exact ⟨rfl, HC.out⟩
  · go_enter Tryd.func18, Tryd.ntmps18
    go_wp2_with (first | (go_at_call 35; with_reducible refine (H1.out _).mono ?_; rintro e w' ⟨rfl, rfl⟩) | (go_at_call 35; with_reducible refine (H2.out _).mono ?_; rintro e w' ⟨rfl, rfl⟩) | (go_at_call 35; with_reducible refine (H3.out _).mono ?_; rintro e w' ⟨rfl, rfl⟩) | (go_at_call 35; with_reducible refine (H4.out _).mono ?_; rintro e w' ⟨rfl, rfl⟩) | (go_at_call 35; with_reducible refine (H5.out _).mono ?_; rintro e w' ⟨rfl, rfl⟩))
    go_ret
    exact ⟨rfl, HC.out⟩
end Go.Proofs.YtfkokbeloenfdaaDoor.krn

/- The kernel: release.Next from the first tick on. -/
namespace Go.Proofs.YtfkokbeloenfdaaDoor.krn
open Go Go.RowKit Go.Proofs.YtfkokbeloenfdaaDoor.kit Go.Shelf
set_option linter.unusedVariables false
set_option linter.unusedSimpArgs false
set_option maxRecDepth 20000
set_option maxHeartbeats 2000000 in
theorem periodic_any (t : Tk) (hp : PlainT t) (hc : t.code.oneCell' = true) (w : World) : Calls Tryd.prog 36 #[t.val] w fun e w' => e = .returned (.bool (decide (t.kind = 1))) ∧ Chg [] w w' := by
  have HP := Lib.hid (fun V => Plain_any t hp hc V)
  obtain ⟨k, p, pe, o, d, ow, code⟩ := t
  have hk := hp.kind
  simp only at hk hc
  unfold Tk.val at HP ⊢
  have HC : Hid (Chg [] w (w.alloc (.cells #[.int .i64 k, .int .i64 p, .int .i64 pe, .int .i64 o, .int .i64 d, .int .i64 ow, code] 33)) ∧ Blk (w.alloc (.cells #[.int .i64 k, .int .i64 p, .int .i64 pe, .int .i64 o, .int .i64 d, .int .i64 ow, code] 33)) w.heap.size #[.int .i64 k, .int .i64 p, .int .i64 pe, .int .i64 o, .int .i64 d, .int .i64 ow, code] 33) := Lib.hid ⟨(Chg.refl [] w).alloc _, Blk.new w _ _⟩
  clear hp
  rcases hk with rfl | ⟨rfl, rfl⟩
  all_goals
    go_enter Tryd.func36, Tryd.ntmps36
    go_wp2_with (go_at_call 18; refine (HP.out _).mono ?_; rintro e w' ⟨rfl, hcw⟩; have q0 := (HC.out.2.keep hcw (by simp)).cell (o := 0) rfl; have HCW := Lib.hid hcw; clear hcw)
    go_ret
    exact ⟨rfl, HC.out.1.fresh HCW.out⟩
set_option maxHeartbeats 2000000 in
theorem Next_any (t : Tk) (hp : PlainT t) (hc : t.code.oneCell' = true) (w : World) : Calls Tryd.prog 22 #[t.val, .int .i64 0] w fun e w' => e = .returned (.tuple #[.int .i64 (if t.kind = 1 then t.offset else 0), .bool (decide (t.kind = 1))]) ∧ Chg [] w w' := by
  have HP := Lib.hid (fun V => periodic_any t hp hc V)
  obtain ⟨k, p, pe, o, d, ow, code⟩ := t
  have hk := hp.kind
  have hpo := hp.offset
  have hpp := hp.period
  simp only at hk hc hpo hpp
  obtain ⟨o0, o1⟩ := hpo
  obtain ⟨p0, p1⟩ := hpp
  unfold Tk.val at HP ⊢
  have HC : Hid (Chg [] w (w.alloc (.cells #[.int .i64 k, .int .i64 p, .int .i64 pe, .int .i64 o, .int .i64 d, .int .i64 ow, code] 33)) ∧ Blk (w.alloc (.cells #[.int .i64 k, .int .i64 p, .int .i64 pe, .int .i64 o, .int .i64 d, .int .i64 ow, code] 33)) w.heap.size #[.int .i64 k, .int .i64 p, .int .i64 pe, .int .i64 o, .int .i64 d, .int .i64 ow, code] 33) := Lib.hid ⟨(Chg.refl [] w).alloc _, Blk.new w _ _⟩
  have HCE : Hid (∀ V, Calls Tryd.prog 37 #[.int .i64 (-o), .int .i64 pe] V fun e w' => e = .returned (.int .i64 0) ∧ w' = V) := Lib.hid (fun V => by
    have h := Go.Proofs.YtfkokbeloenfdaaDoor.word.Ceil_any (-o) pe V (by omega)
    have h0 : Go.Proofs.YtfkokbeloenfdaaDoor.word.ceil (-o) pe = 0 := by unfold Go.Proofs.YtfkokbeloenfdaaDoor.word.ceil; rw [if_pos (by omega)]
    rw [h0] at h
    exact h.mono (fun e w' h => ⟨h.1, h.2.symm⟩))
  have kw : IntKind.i64.wrap (-o) = -o := by rw [IntKind.wrap_i64]; omega
  clear hp
  rcases hk with rfl | ⟨rfl, rfl⟩
  · go_enter Tryd.func22, Tryd.ntmps22
    go_wp2_with (go_at_call 36; refine (HP.out _).mono ?_; rintro e w1 ⟨rfl, hcw⟩; have hb := HC.out.2.keep hcw (by simp); have q2 := hb.cell (o := 2) rfl; have q3 := hb.cell (o := 3) rfl; have HCW := Lib.hid hcw; clear hcw hb)
    go_quiet (first | (go_at_call 37; with_reducible refine Calls.quiet_of_same (HCE.out _)))
    go_wp2
    refine bodyPost_ret (results_tmp2 rfl _ _ _) rfl ?_
    exact ⟨rfl, (HC.out.1.fresh HCW.out).drewN nq⟩
  · go_enter Tryd.func22, Tryd.ntmps22
    go_wp2_with (go_at_call 36; refine (HP.out _).mono ?_; rintro e w1 ⟨rfl, hcw⟩; have HCW := Lib.hid hcw; clear hcw)
    refine bodyPost_ret (results_tmp2 rfl _ _ _) rfl ?_
    exact ⟨rfl, HC.out.1.fresh HCW.out⟩
end Go.Proofs.YtfkokbeloenfdaaDoor.krn

/- The kernel: New's parts. -/
namespace Go.Proofs.YtfkokbeloenfdaaDoor.krn
open Go Go.RowKit Go.Proofs.YtfkokbeloenfdaaDoor.kit Go.Shelf
set_option linter.unusedVariables false
set_option linter.unusedSimpArgs false
set_option maxRecDepth 20000
theorem New1_any (t : Tk) (hp : PlainT t) (hc : t.code.oneCell' = true) (w : World) : Calls Tryd.prog 17 #[t.val] w fun e w' => e = .returned (.bool false) ∧ Chg [] w w' := by
  have HP := Lib.hid (fun V => Plain_any t hp hc V)
  obtain ⟨k, p, pe, o, d, ow, code⟩ := t
  simp only at hc
  unfold Tk.val at HP ⊢
  have HC : Hid (Chg [] w (w.alloc (.cells #[.int .i64 k, .int .i64 p, .int .i64 pe, .int .i64 o, .int .i64 d, .int .i64 ow, code] 33))) := Lib.hid ((Chg.refl [] w).alloc _)
  clear hp
  go_enter Tryd.func17, Tryd.ntmps17
  go_wp2_with (go_at_call 18; refine (HP.out _).mono ?_; rintro e w' ⟨rfl, hcw⟩; have HCW := Lib.hid hcw; clear hcw)
  go_ret
  exact ⟨rfl, HC.out.fresh HCW.out⟩
def TkV (l : List Tk) : List Value := l.flatMap Tk.cells
set_option maxHeartbeats 2000000 in
theorem Index_any (sv : Value) (l : List Tk) (w : World) (h : Reads w 7 sv l.length (TkV l)) (hl : l.length ≤ 8) (hp : ∀ t ∈ l, PlainT t ∧ t.code.oneCell' = true) :
    Calls Tryd.prog 34 #[sv, .func (.func 17) #[] #[]] w fun e w' => e = .returned (.int .i64 (-1)) ∧ Chg [] w w' := by
  obtain ⟨sa, sc, rfl⟩ := reads_open h
  have HR := Lib.hid h
  have HL := Lib.hid hl
  have HP := Lib.hid hp
  obtain ⟨n, hn⟩ : ∃ z, l.length = z := ⟨_, rfl⟩
  rw [hn] at HR ⊢
  have HN := Lib.hid hn
  clear h hl hp hn
  go_enter Tryd.func34, Tryd.ntmps34
  go_wp2
  go_loopw [8] (fun p wr => ∃ i : Nat, p = .int .i64 (i : Int) ∧ Hid (i ≤ n) ∧ Hid (Chg [] w wr)) (fun p _ => n - (intOf p).toNat)
  case atStart => exact ⟨0, rfl, Lib.hid (by omega), Lib.hid (Chg.refl _ _)⟩
  case round =>
    obtain ⟨i, rfl, HI, HC⟩ := hrel
    by_cases hin : i < n
    · have m1 : (i : Int) < (n : Int) := by omega
      obtain ⟨t, ht⟩ : ∃ t, l[i]? = some t := ⟨_, List.getElem?_eq_getElem (by rw [HN.out]; exact hin)⟩
      obtain ⟨hpt, hct⟩ := HP.out t (List.mem_of_getElem? ht)
      obtain ⟨rb, ro, rx, rc, -⟩ := reads_index (P := Tryd.prog) Tryd.underlying22 szTask (HR.out.fresh HC.out)
      have ix := rx i hin
      have hg : ∀ f v, f < 7 → t.cells[f]? = some v → wr.cell? ⟨rb, ro + (i * 7 + f), none⟩ = some v := fun f v hf hv => rc _ _ (by unfold TkV; rw [flatMap_get Tk.cells 7 (fun _ => rfl) l i f hf _ ht]; exact hv)
      have HNW := Lib.hid (fun V => New1_any t hpt hct V)
      obtain ⟨k, p, pe, o, d, ow, code⟩ := t
      unfold Tk.val at HNW
      have y0 := hg 0 _ (by decide) rfl
      have y1 := hg 1 _ (by decide) rfl
      have y2 := hg 2 _ (by decide) rfl
      have y3 := hg 3 _ (by decide) rfl
      have y4 := hg 4 _ (by decide) rfl
      have y5 := hg 5 _ (by decide) rfl
      have y6 := hg 6 _ (by decide) rfl
      simp only at hct
      have HIN := Lib.hid hin
      have h63 : ¬ (i : Int) + 1 > 9223372036854775807 := by have h1 := HL.out; have h2 := HN.out; omega
      simp only [Nat.add_zero, ← Nat.add_assoc] at y0 y1 y2 y3 y4 y5 y6
      clear hpt ht rx rc hg hin
      go_wp2_with (go_at_call 17; refine (HNW.out _).mono ?_; rintro e w' ⟨rfl, hcw⟩; have HCW := Lib.hid hcw; clear hcw)
      go_roundw
      case rel => exact ⟨i + 1, by simp, Lib.hid (by have := HIN.out; omega), Lib.hid (HC.out.trans HCW.out)⟩
      case measure =>
        have := HIN.out
        simp [intOf]
        omega
    · have m1 : ¬ (i : Int) < (n : Int) := by omega
      clear hin
      go_wp2
      go_ret
      exact ⟨rfl, HC.out⟩
theorem Contains_any (sv : Value) (l : List Tk) (w : World) (h : Reads w 7 sv l.length (TkV l)) (hl : l.length ≤ 8) (hp : ∀ t ∈ l, PlainT t ∧ t.code.oneCell' = true) :
    Calls Tryd.prog 16 #[sv, .func (.func 17) #[] #[]] w fun e w' => e = .returned (.bool false) ∧ Chg [] w w' := by
  have HI := Lib.hid (Index_any sv l w h hl hp)
  clear h hl hp
  go_enter Tryd.func16, Tryd.ntmps16
  go_wp2_with (go_at_call 34; refine HI.out.mono ?_; rintro e w' ⟨rfl, hcw⟩)
  go_ret
  exact ⟨rfl, hcw⟩
theorem infoTask : (Tryd.prog.info? 33).map (fun i => (i.zero, i.size, i.bytes)) = some (some (.agg #[.int .i64 0, .int .i64 0, .int .i64 0, .int .i64 0, .int .i64 0, .int .i64 0, .slice none 0 0]), 7, 72) := by kernel_rfl
theorem agNew_any (n : Nat) (h1 : 1 ≤ n) (hn : n ≤ 8) (w : World) : Calls Tryd.prog 21 #[.int .i64 (n : Int)] w fun e w' => ∃ b, e = .returned (.pointer (some ⟨b, 0, none⟩)) ∧ w.heap.size ≤ b ∧ AgAt w' w.heap.size b (n : Int) none 0 [] ∧ Chg [] w w' := by
  have m1 : ¬ (4096 : Int) < (n : Int) := by omega
  have m2 : ¬ (n : Int) < 0 := by omega
  have m3 : ¬ (n : Int) ≤ 0 := by omega
  have m4 : (0 : Int) < (n : Int) := by omega
  have hb := Blk.new w #[.int .i64 (n : Int), .slice none 0 0] 92
  have HB := Lib.hid hb
  clear hb
  go_enter Tryd.func21, Tryd.ntmps21
  go_wp2
  go_ret
  exact ⟨_, rfl, Nat.le_refl _, ⟨HB.out, rfl, .inl ⟨rfl, rfl⟩⟩, (Chg.refl [] w).alloc _⟩
set_option maxHeartbeats 2000000 in
theorem Clone_any (sv : Value) (l : List Tk) (w : World) (h : Reads w 7 sv l.length (TkV l)) (hl : 1 ≤ l.length ∧ l.length ≤ 8) (hp : ∀ t ∈ l, PlainT t ∧ t.code.oneCell' = true) :
    Calls Tryd.prog 19 #[sv] w fun e w' => ∃ a c, e = .returned (.slice a l.length c) ∧ w'.ownsRow w.heap.size 33 7 (.slice a l.length c) l.length (l.flatMap Tk.cells) ∧ Chg [] w w' := by
  obtain ⟨hlen, hle, h1 | ⟨hpos, b, o, c, rfl, hnc, hcm, hcell⟩⟩ := h
  · omega
  · obtain ⟨n, hn⟩ : ∃ z, l.length = z := ⟨_, rfl⟩
    rw [hn] at hlen hle hpos hnc ⊢
    have hone : ∀ u ∈ TkV l, u.oneCell' = true := by
      intro u hu
      unfold TkV at hu
      obtain ⟨t, ht, hu⟩ := List.mem_flatMap.1 hu
      have hc := (hp t ht).2
      simp only [Tk.cells, List.mem_cons, List.not_mem_nil, or_false] at hu
      rcases hu with rfl | rfl | rfl | rfl | rfl | rfl | rfl <;> first | rfl | exact hc
    go_enter Tryd.func19, Tryd.ntmps19
    have hnil : ∀ W, (binOp .eql 22 (.slice (some ⟨b, o, none⟩) n c) (.slice none 0 0)).run Tryd.prog W = .ok (.bool false) W := fun W => Lib.run_eql_slice_some_nil W _ _ _ Tryd.underlying22
    obtain ⟨i0, hi0, hz0, hz1, hz2⟩ := info_parts infoTask
    have hempty : (w.alloc (.cells #[] 33)).ownsRow w.heap.size 33 7 (.slice (some ⟨w.heap.size, 0, none⟩) 0 0) 0 [] := ⟨rfl, .inr ⟨_, 0, #[], rfl, Nat.le_refl _, Blk.new w _ _, Nat.le_refl _, by decide, rfl, rfl⟩⟩
    have hnews : ∀ (j : Nat) u, (TkV l)[j]? = some u → (w.alloc (.cells #[] 33)).cell? ((⟨b, o, none⟩ : Addr).add j) = some u := fun j u hj => by
      rw [Go.Proofs.YtfkokbeloenfdaaDoor.kit.add_plain]
      exact ((Chg.refl [] w).alloc _).keep (hcell j u hj) (by simp)
    have hx1 : 0 + n ≤ maxLen := by omega
    have hx2 : (0 + n) * 72 ≤ 140737488355328 := by omega
    have hx3 : w.heap.size ≤ (w.alloc (.cells #[] 33)).heap.size := by rw [World.size_alloc]; omega
    have HN := Lib.hid hn
    clear hcell hl hp hn
    go_wp2_with (at_builtin; refine wpList_append_own _ rfl (.tmp 5) (.tmp 6) 22 rfl w.heap.size 33 i0 _ 7 72 Tryd.underlying22 hi0 hz0 hz1 hz2 rfl (by decide) (.slice (some ⟨w.heap.size, 0, none⟩) 0 0) 0 [] rfl hempty ⟨b, o, none⟩ n c (TkV l) rfl hlen hnews hone hx1 hx2 hx3 ?_; intro v' w' hown' hgrow hnil'; obtain ⟨a', c', rfl⟩ := own_open hown'; have HKA := Lib.hid ((((Chg.refl [w.heap.size] (w.alloc (.cells #[] 33)))).grown hgrow (fun k hk => .inl (by simpa [Value.ownBlock] using hk.symm)))); have HON := Lib.hid hown'; clear hown' hgrow hnil')
    go_ret
    have hon := HON.out
    rw [Nat.zero_add, List.nil_append] at hon
    refine ⟨a', c', by simp, hon, ((Chg.refl [] w).alloc _).into HKA.out (by simp)⟩
end Go.Proofs.YtfkokbeloenfdaaDoor.krn

/- The kernel: job.New. -/
namespace Go.Proofs.YtfkokbeloenfdaaDoor.krn
open Go Go.RowKit Go.Proofs.YtfkokbeloenfdaaDoor.kit Go.Shelf
set_option linter.unusedVariables false
set_option linter.unusedSimpArgs false
set_option maxRecDepth 20000
theorem slice_all {t e : Nat} (ht : Tryd.prog.underlying t = some (.slice e)) (he : ∃ s, (Tryd.prog.info? e).map (·.size) = some s) (g o n c m : Nat) (hm : m ≤ n) (hc : n ≤ c) (u : World) :
    (Instr.slice t (.slice (some ⟨g, o, none⟩) n c) none (some (.int .i64 (m : Int))) none).run Tryd.prog u = .ok (.slice (some ⟨g, o, none⟩) m c) u := by
  obtain ⟨s, he⟩ := he
  have hel : Tryd.prog.elem t = e := by simp [Program.elem, ht]
  rw [run_slice_h (P := Tryd.prog) (w := u) t (some ⟨g, o, none⟩) n c (by rw [hel]; exact ht) .i64 m (by omega) (by omega), hel, sizeOf_run he]
  simp [Result.andThen, sliced, Go.Proofs.YtfkokbeloenfdaaDoor.kit.add_plain]
def led0 (l : List Tk) : Led := ⟨l, [], fun _ => none, fun _ => none, 0, []⟩
set_option maxHeartbeats 2000000 in
theorem jobNew_any (sv : Value) (l : List Tk) (w : World) (h : Reads w 7 sv l.length (TkV l)) (hl : 1 ≤ l.length ∧ l.length ≤ 8) (hp : ∀ t ∈ l, PlainT t ∧ t.code.oneCell' = true) :
    Calls Tryd.prog 20 #[sv] w fun e w' => ∃ b q, e = .returned (.pointer (some ⟨b, 0, none⟩)) ∧ LedAt w' w.heap.size b 0 (led0 l) q ∧ (∀ y ∈ q.bs b, w.heap.size ≤ y) ∧ Chg [] w w' := by
  have HCL := Lib.hid (Clone_any sv l w h hl hp)
  obtain ⟨hlen, hle, h1 | ⟨hpos, b, o, c, rfl, hnc, hcm, hcell⟩⟩ := h
  · omega
  · have hsl := slice_all (t := 22) Tryd.underlying22 ⟨7, szTask⟩ b o l.length c l.length (Nat.le_refl _) hnc
    obtain ⟨n, hn⟩ : ∃ z, l.length = z := ⟨_, rfl⟩
    rw [hn] at hsl HCL ⊢
    have hmk : ∀ W : World, (Instr.makeMap 64 none).run Tryd.prog W = .ok (.map (some W.heap.size)) (W.alloc (.map #[] 0)) := fun W => by
      first | exact run_makeMap W Tryd.underlying64 | (simp [Instr.makeMap, run_underlying Tryd.underlying64, go_sem]; done) | kernel_rfl
    have HN := Lib.hid hn
    have m1 : ¬ (64 : Int) < (n : Int) := by omega
    have m2 : (n : Int) ≤ 64 := by omega
    clear hlen hle hpos hcm hcell hl hp hn
    go_enter Tryd.func20, Tryd.ntmps20
    go_wp2_with (go_at_call 19; refine HCL.out.mono ?_; rintro e w1 ⟨a1, c1, rfl, ho1, hc1⟩; have HO1 := Lib.hid ho1; have HC1 := Lib.hid hc1; clear ho1 hc1)
    go_ret
    obtain ⟨wa, hwa⟩ : ∃ z, w1.alloc (.map #[] 0) = z := ⟨_, rfl⟩
    have hma : MapI wa w1.heap.size 0 (fun _ => none) := by rw [← hwa]; exact MapI.made w1
    have hsa : wa.heap.size = w1.heap.size + 1 := by rw [← hwa]; simp
    have hca : Chg [] w1 wa := by rw [← hwa]; exact (Chg.refl [] w1).alloc _
    rw [hwa]
    obtain ⟨wb, hwb⟩ : ∃ z, wa.alloc (.map #[] 0) = z := ⟨_, rfl⟩
    have hmb : MapI wb (w1.heap.size + 1) 0 (fun _ => none) := by rw [← hwb, ← hsa]; exact MapI.made wa
    have hsb : wb.heap.size = w1.heap.size + 1 + 1 := by rw [← hwb]; simp [hsa]
    have hcb : Chg [] wa wb := by rw [← hwb]; exact (Chg.refl [] wa).alloc _
    rw [hwb, ← hsb]
    have hcc : ∀ o, Chg [] wb (wb.alloc o) := fun o => (Chg.refl [] wb).alloc o
    have hw1 := HC1.out.size
    refine ⟨wb.heap.size, ⟨a1, c1, none, 0, w1.heap.size, w1.heap.size + 1, none, 0⟩, rfl, ⟨?_, ?_, ?_, ?_, ?_, ?_, ?_⟩, ?_, ((HC1.out.trans hca).trans hcb).trans (hcc _)⟩
    · have hb := Blk.new wb #[.slice a1 n c1, .slice none 0 0, .map (some w1.heap.size), .map (some (w1.heap.size + 1)), .int .u64 0, .slice none 0 0] 90
      rw [← HN.out] at hb
      rw [← HN.out]
      exact hb
    · have := own_keep HO1.out ((hca.trans hcb).trans (hcc (.cells #[.slice a1 n c1, .slice none 0 0, .map (some w1.heap.size), .map (some (w1.heap.size + 1)), .int .u64 0, .slice none 0 0] 90))) (by simp)
      show World.ownsRow _ _ _ 7 (.slice a1 l.length c1) l.length _
      rw [HN.out]; exact this
    · exact ⟨rfl, .inl ⟨rfl, rfl⟩⟩
    · exact (hma.keep hcb (by simp)).keep (hcc _) (by simp)
    · exact hmb.keep (hcc _) (by simp)
    · exact ⟨rfl, .inl ⟨rfl, rfl⟩⟩
    · show w1.heap.size ≠ w1.heap.size + 1
      omega
    · intro y hy
      rcases LedQ.mem hy with h1 | h1 | h1 | h1 | h1 | h1
      · omega
      · simp only at h1; omega
      · simp only at h1; omega
      · simp only at h1
        exact (World.ownsRow.lt HO1.out y (by rw [own_slice]; exact h1)).1
      · cases h1
      · cases h1
end Go.Proofs.YtfkokbeloenfdaaDoor.krn
