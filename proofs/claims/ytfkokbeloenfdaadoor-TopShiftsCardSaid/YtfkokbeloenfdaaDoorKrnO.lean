/- The kernel: Step, End. -/
import Derived.Test.YtfkokbeloenfdaaDoorKrnN
namespace Go.Proofs.YtfkokbeloenfdaaDoor.krn
open Go Go.RowKit Go.Proofs.YtfkokbeloenfdaaDoor.kit Go.Shelf
set_option linter.unusedVariables false
set_option linter.unusedSimpArgs false
set_option maxRecDepth 20000
def Led.nowj (s : Led) (i : Nat) : Nat := ((s.now (i : Int)).getD 0).toNat
def stepJ (x : Jb) (t : Int) : Jb := { x with st := if x.steps = 0 then t else x.st, steps := x.steps + 1 }
def stepM (s : Led) (i : Nat) (t : Int) : Led := { s with all := s.all.set (s.nowj i) (stepJ (s.get i) t) }
def endM (s : Led) (i : Nat) (t : Int) : Led := { s with all := s.all.set (s.nowj i) { s.get i with en := t + 1 }, act := dropM s.act i, now := upd s.now (i : Int) none }
theorem nowj_of {s : Led} {i j : Nat} (h : s.now (i : Int) = some (j : Int)) : s.nowj i = j := by unfold Led.nowj; rw [h]; simp
theorem set_at {l : List Jb} {j : Nat} {x : Jb} (h : l[j]? = some x) (y : Jb) : (l.set j y)[j]? = some y := by
  have h1 : j < l.length := (List.getElem?_eq_some_iff.1 h).1
  simp [h1]
set_option maxHeartbeats 4000000 in
theorem Step_any (B db n : Nat) (s : Led) (q : LedQ) (i : Nat) (t : Int) (w : World) (h : LedAt w B db n s q) (hk : LedOK s n) (hb : s.act.testBit i = true) (h0 : 0 ≤ t) (h1 : t ≤ 4096) :
    Calls Tryd.prog 46 #[.pointer (some ⟨db, 0, none⟩), .int .i64 (i : Int), .int .i64 t] w fun e w' => (∃ v, e = .returned v) ∧ LedAt w' B db n (stepM s i t) q ∧ Chg (q.aa.map (·.block)).toList w w' := by
  have hi : i < 8 := bit_lt hk.act hb
  obtain ⟨j, x, hn, hx, hjl, hg⟩ := hk.job hb
  have hfit := (hk.fit x (List.mem_of_getElem? hx)).2.2.1
  have hM : Hid (stepM s i t = { s with all := s.all.set j (stepJ x t) }) := Lib.hid (by unfold stepM; rw [nowj_of hn, hg])
  have HH := Lib.hid (has_any B db n s q i w h hk (by omega))
  rw [hb] at HH
  have HJ := Lib.hid (job_any B db n s q i j w h (by omega) hn hjl)
  have HT := Lib.hid (fun V => time_any t h0 h1 V)
  have HF : Hid (∀ V g, Chg [] w V → q.aa = some ⟨g, 0, none⟩ → _) := Lib.hid (fun V g hV hq => (h.fresh hV).job hq hx)
  have HL := Lib.hid (fun V (hV : Chg [] w V) => h.fresh hV)
  have HX := Lib.hid hx
  have h63 : ¬ x.steps + 1 > 9223372036854775807 := by omega
  obtain ⟨x0, x1, x2, x3, x4, x5, x6, x7⟩ := x
  simp only at hfit h63
  clear h hk hi hb hn hx hjl hg h0 h1
  by_cases h60 : x6 = 0
  · subst h60
    go_enter Tryd.func46, Tryd.ntmps46
    go_wp2_with (first | (go_at_call 31; refine HH.out.mono ?_; rintro e w' ⟨rfl, rfl⟩) | (go_at_call 32; refine HJ.out.mono ?_; rintro e w2 ⟨g, c, rfl, hq, -, hc2⟩; have HC2 := Lib.hid hc2; obtain ⟨⟨⟨y0, y1, y2, y3⟩, y4, y5, y6, y7⟩, hfr⟩ := HF.out w2 g hc2 hq; have f4 := hfr 4 (by decide); have f6 := hfr 6 (by decide); have HQ := Lib.hid hq; clear hc2 hq hfr) | (go_at_call 40; refine (HT.out _).mono ?_; rintro e w' ⟨rfl, rfl⟩))
    go_ret
    have h1 := (HL.out w2 HC2.out).putJob (f := 4) (y := ⟨x0, x1, x2, x3, t, x5, 0, x7⟩) HQ.out HX.out (by decide) (.int .i64 t) rfl
    have h2 := h1.putJob (j := j) (f := 6) (x := ⟨x0, x1, x2, x3, t, x5, 0, x7⟩) (y := ⟨x0, x1, x2, x3, t, x5, 1, x7⟩) HQ.out (set_at HX.out _) (by decide) (.int .i64 1) rfl
    refine ⟨⟨_, rfl⟩, ?_, ?_⟩
    · rw [hM.out, show stepJ ⟨x0, x1, x2, x3, x4, x5, 0, x7⟩ t = ⟨x0, x1, x2, x3, t, x5, 1, x7⟩ from rfl]
      simp only [List.set_set] at h2
      exact h2
    · rw [HQ.out]
      exact ((HC2.out.mono (by simp)).setCell (.inl (by simp)) _).setCell (.inl (by simp)) _
  · have m60 : (x6 == 0) = false := by simpa using h60
    go_enter Tryd.func46, Tryd.ntmps46
    go_wp2_with (first | (go_at_call 31; refine HH.out.mono ?_; rintro e w' ⟨rfl, rfl⟩) | (go_at_call 32; refine HJ.out.mono ?_; rintro e w2 ⟨g, c, rfl, hq, -, hc2⟩; have HC2 := Lib.hid hc2; obtain ⟨⟨⟨y0, y1, y2, y3⟩, y4, y5, y6, y7⟩, hfr⟩ := HF.out w2 g hc2 hq; have f4 := hfr 4 (by decide); have f6 := hfr 6 (by decide); have HQ := Lib.hid hq; clear hc2 hq hfr))
    go_ret
    have h1 := (HL.out w2 HC2.out).putJob (f := 6) (y := ⟨x0, x1, x2, x3, x4, x5, x6 + 1, x7⟩) HQ.out HX.out (by decide) (.int .i64 (x6 + 1)) rfl
    refine ⟨⟨_, rfl⟩, ?_, ?_⟩
    · rw [hM.out, show stepJ ⟨x0, x1, x2, x3, x4, x5, x6, x7⟩ t = ⟨x0, x1, x2, x3, x4, x5, x6 + 1, x7⟩ by simp [stepJ, h60]]
      exact h1
    · rw [HQ.out]
      exact (HC2.out.mono (by simp)).setCell (.inl (by simp)) _
set_option maxHeartbeats 4000000 in
theorem End_any (B db n : Nat) (s : Led) (q : LedQ) (i : Nat) (t : Int) (w : World) (h : LedAt w B db n s q) (hk : LedOK s n) (hb : s.act.testBit i = true) (h0 : 0 ≤ t) (h1 : t ≤ 4096) :
    Calls Tryd.prog 47 #[.pointer (some ⟨db, 0, none⟩), .int .i64 (i : Int), .int .i64 t] w fun e w' => e = .returned (.tuple #[({ s.get i with en := t + 1 } : Jb).val, .bool true]) ∧ LedAt w' B db n (endM s i t) q ∧ Chg (db :: q.nb :: (q.aa.map (·.block)).toList) w w' := by
  have hi : i < 8 := bit_lt hk.act hb
  have hact := hk.act
  obtain ⟨j, x, hn, hx, hjl, hg⟩ := hk.job hb
  have hM : Hid (endM s i t = { s with all := s.all.set j { x with en := t + 1 }, act := dropM s.act i, now := upd s.now (i : Int) none }) := Lib.hid (by unfold endM; rw [nowj_of hn, hg])
  rw [hg]
  obtain ⟨W1, hW1⟩ : ∃ W1, w.alloc (.cells #[.int .i64 0, .int .i64 0, .int .i64 0, .int .i64 0, .int .i64 0, .int .i64 0, .int .i64 0, .bool false] 60) = W1 := ⟨_, rfl⟩
  have HW1 : Hid (Chg [] w W1) := Lib.hid (by rw [← hW1]; exact (Chg.refl [] w).alloc _)
  have HBN : Hid (Blk W1 w.heap.size #[.int .i64 0, .int .i64 0, .int .i64 0, .int .i64 0, .int .i64 0, .int .i64 0, .int .i64 0, .bool false] 60) := Lib.hid (by rw [← hW1]; exact Blk.new w _ _)
  have HH := Lib.hid (has_any B db n s q i _ (h.fresh HW1.out) hk (by omega))
  rw [hb] at HH
  have HJ := Lib.hid (job_any B db n s q i j _ (h.fresh HW1.out) (by omega) hn hjl)
  have HT := Lib.hid (fun V => time_any t h0 h1 V)
  have HD := Lib.hid (fun V => Drop_any s.act i (by omega) (by omega) V)
  have HF : Hid (∀ V g, Chg [] W1 V → q.aa = some ⟨g, 0, none⟩ → _) := Lib.hid (fun V g hV hq => (h.fresh (HW1.out.fresh hV)).job hq hx)
  have HL := Lib.hid (fun V (hV : Chg [] W1 V) => h.fresh (HW1.out.fresh hV))
  have HLT := Lib.hid h.lt
  have HX := Lib.hid hx
  have h63 : ¬ t + 1 > 9223372036854775807 := by omega
  have HI : Hid (I64 (i : Int)) := Lib.hid (i64_of (by omega) (by omega))
  obtain ⟨x0, x1, x2, x3, x4, x5, x6, x7⟩ := x
  obtain ⟨dm, hdm⟩ : ∃ z, dropM s.act i = z := ⟨_, rfl⟩
  rw [hdm] at HD
  have HDM := Lib.hid hdm
  clear h hk hi hb hn hx hjl hg hact hdm
  go_enter Tryd.func47, Tryd.ntmps47
  go_wp2_with (first
    | (go_at_call 31; refine HH.out.mono ?_; rintro e w' ⟨rfl, rfl⟩)
    | (go_at_call 32; refine HJ.out.mono ?_; rintro e w2 ⟨g, c, rfl, hq, -, hc2⟩; have HC2 := Lib.hid hc2; obtain ⟨⟨⟨y0, y1, y2, y3⟩, y4, y5, y6, y7⟩, hfr⟩ := HF.out w2 g hc2 hq; have f5 := hfr 5 (by decide); have HQ := Lib.hid hq; have hl2 := HL.out w2 hc2; have b4 : w2.cell? ⟨db, 4, none⟩ = some (.int .u64 (s.act : Int)) := hl2.box.cell rfl; have b2 : w2.cell? ⟨db, 2, none⟩ = some (.map (some q.nb)) := hl2.box.cell rfl; have fb := hl2.box.free 4; have n1 : ¬ g = db := own_type hl2.ra hl2.box (by decide) g (by rw [own_slice, hq]; rfl); have n2 : ¬ db = g := fun h => n1 h.symm; clear hc2 hq hfr hl2)
    | (go_at_call 40; refine (HT.out _).mono ?_; rintro e w' ⟨rfl, rfl⟩)
    | (go_at_call 60; refine (HD.out _).mono ?_; rintro e w' ⟨rfl, rfl⟩)
    | (at_delete; have h4 := ((HL.out w2 HC2.out).putJob (f := 5) (y := ⟨x0, x1, x2, x3, x4, t + 1, x6, x7⟩) HQ.out HX.out (by decide) (.int .i64 (t + 1)) rfl).setAct dm; refine wpList_del _ rfl (.tmp 35) (.tmp 36) rfl q.nb n s.now rfl h4.mn (i : Int) rfl HI.out ?_; intro w5 hm5 hc5; have h5 := h4.setNow hc5 (Nat.le_refl n) hm5; obtain ⟨⟨⟨z0, z1, z2, z3⟩, z4, z5, z6, z7⟩, -⟩ := h5.job (j := j) HQ.out (set_at HX.out _); have HRB := Lib.hid ((((HBN.out.keep HC2.out (by simp)).set_ne (b' := g) (by have h7 := HLT.out g (by simp [LedQ.bs, HQ.out]); omega) (j * 8 + 5) none (.int .i64 (t + 1))).set_ne (b' := db) (by have h7 := HLT.out db (by simp [LedQ.bs]); omega) 4 none (.int .u64 (dm : Int))).keep hc5 (by have h7 := HLT.out q.nb (by simp [LedQ.bs]); simp; omega)); have HC5 := Lib.hid hc5; have H5 := Lib.hid h5; clear h4 h5 hm5 hc5)
    | (refine Go.Proofs.YtfkokbeloenfdaaDoor.blk.wpList_store_blk rfl 60 (.tmp 6) (.tmp 39) rfl w.heap.size #[.int .i64 x0, .int .i64 x1, .int .i64 x2, .int .i64 x3, .int .i64 x4, .int .i64 (t + 1), .int .i64 x6, .bool x7] rfl rfl (HRB.out) szJob rfl (by simp [Value.oneCell']) ?_; intro w9 hb9 hc9; have HB9 := Lib.hid hb9; have HC9 := Lib.hid hc9; clear hb9 hc9))
  refine bodyPost_ret (results_row_tmp rfl _ _ w.heap.size 60 _ (0, 0) _ rfl HB9.out Tryd.underlying60 rfl szJob) rfl ?_
  refine ⟨rfl, ?_, ?_⟩
  · rw [hM.out, HDM.out]
    exact H5.out.keep HC9.out (fun y hy hm => by have h7 := HLT.out y hy; have := List.mem_singleton.1 hm; omega)
  · rw [HQ.out]
    have k1 := ((((HW1.out.fresh HC2.out).mono (L' := [db, q.nb, g]) (by simp)).setCell (p := ⟨g, j * 8 + 5, none⟩) (.inl (by simp)) (.int .i64 (t + 1))).setCell (p := ⟨db, 4, none⟩) (.inl (by simp)) (.int .u64 (dm : Int)))
    exact (k1.into HC5.out (by simp)).into HC9.out (by simp)
end Go.Proofs.YtfkokbeloenfdaaDoor.krn
