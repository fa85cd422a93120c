/- Package micro: a word of a record is read; what is told. -/
import Derived.Test.YtbbpnpokccfhjaaCore4
namespace Go.Proofs.Ytbbpnpokccfhjaa.core
open Go Go.RowKit Go.Proofs.Ytbbpnpokccfhjaa.kit Go.Proofs.Ytbbpnpokccfhjaa.mem Go.Proofs.Ytbbpnpokccfhjaa.rop
set_option linter.unusedVariables false
set_option maxRecDepth 20000

theorem own_lt {W : World} {v : Value} {l : List Int} {y : Nat} (h : OwnW W 0 v l) (hy : v.ownBlock = some y) : y < W.heap.size := by
  rcases h.2 with ⟨rfl, _⟩ | ⟨g, cap, cur, rfl, hbg, hg, _⟩
  · cases hy
  · obtain rfl : g = y := by simpa [Value.ownBlock] using hy
    exact lt_of_block hg
section
variable {T : TypeId} {bx mb : Nat} {sv r0 v v' : Value} {W0 W W' : World} {x x' : Core} {rec ws : List Int} {n : Int}
theorem Pair.byMem (hp : Pair T bx mb sv W x v rec ws n) {ws' : List Int} {n' : Int} (k : Chg (mb :: sv.ownBlock.toList) W W') (hm : MemAt W' mb sv ws' n') : Pair T bx mb sv W' x v rec ws' n' := by
  have hb : bx ∉ (mb :: sv.ownBlock.toList) := by simp; exact ⟨hp.ne, fun hh => hp.ns bx hh rfl⟩
  exact ⟨hp.box.keep k hb, mem.own_chg hp.row k (fun y hy => by simp; exact ⟨(hp.nv y hy).2.1, (hp.nv y hy).2.2⟩), hp.wf, hp.short, hm, hp.ne, hp.ns, hp.nv⟩
theorem St.push (hp : Pair T bx mb sv W x v rec ws n) (he : Ev bx mb sv W0 r0 W v) (hc : Chg v.ownBlock.toList W W') {u : Int} (ho : W'.ownsRow 0 22 1 v' (rec.length + 1) (rec.map (Value.int .u32) ++ [.int .u32 u]))
    (hb : ∀ y, v'.ownBlock = some y → v.ownBlock = some y ∨ W.heap.size ≤ y) (hu : (Lit.int .u32 u).wf = true) (hl : rec.length + 1 ≤ 1000) : St T bx mb sv W0 r0 (W'.setCell ⟨bx, 16, none⟩ v') x (rec ++ [u]) ws n := by
  have hbx : bx ∉ v.ownBlock.toList := fun hh => (hp.nv bx (by simpa using hh)).1 rfl
  have hmb : mb ∉ v.ownBlock.toList := fun hh => (hp.nv mb (by simpa using hh)).2.1 rfl
  have hnv : ∀ y, v'.ownBlock = some y → y ≠ bx ∧ y ≠ mb ∧ sv.ownBlock ≠ some y := by
    intro y hy
    rcases hb y hy with h1 | h1
    · exact hp.nv y h1
    · have h2 := hp.box.lt
      have h3 := hp.mem.box.lt
      exact ⟨by omega, by omega, fun hh => by have := own_lt hp.mem.row hh; omega⟩
  refine ⟨v', ⟨(hp.box.keep hc hbx).set 16 v', ?_, ?_, by simp; omega, ?_, hp.ne, hp.ns, hnv⟩, ?_, ?_⟩
  · refine mem.own_chg (L := [bx]) ?_ ((Chg.refl [bx] W').setCell (.inl (by simp)) _) (fun y hy => by simp; exact (hnv y hy).1)
    simpa using ho
  · intro z hz
    simp at hz
    rcases hz with hz | rfl
    · exact hp.wf z hz
    · exact hu
  · refine (hp.mem.keep hc hmb (fun y hy hh => (hp.nv y (by simpa using hh)).2.2 hy)).keep ((Chg.refl [bx] W').setCell (p := ⟨bx, 16, none⟩) (.inl (by simp)) v') (by simp; exact hp.ne.symm) (fun y hy => by simp; exact hp.ns y hy)
  · refine (he.chg.into hc fun z hz => ?_).setCell (.inl (by simp)) _
    rcases he.own z (by simpa using hz) with h1 | h1
    · left; simp [h1]
    · exact .inr h1
  · intro y hy
    rcases hb y hy with h1 | h1
    · exact he.own y h1
    · exact .inr (Nat.le_trans he.chg.size h1)
end

set_option maxHeartbeats 4000000 in
theorem Word_read {T : TypeId} {bx mb : Nat} {sv r0 : Value} {W0 W : World} {x : Core} {rec ws : List Int} {n : Int} (bN f iN : Nat) (hop : x.op ≠ 2 ∧ x.op ≠ 3) (hm : x.m = .pointer (some ⟨mb, 0, none⟩)) (hb : x.base = (bN : Int)) (hi : x.i = (iN : Int)) (hrl : rec.length < 1000) (hil : iN < 1000) (hj : bN + (f + iN) < ws.length) (hn : 0 ≤ n ∧ n ≤ 1000000) (h : St T bx mb sv W0 r0 W x rec ws n) :
    Calls Try.prog 88 #[.pointer (some ⟨bx, 0, none⟩), .int .i64 (f : Int)] W fun e W' => e = .returned (.bool (decide (x.w ≤ (iN : Int) + 1))) ∧ St T bx mb sv W0 r0 W' { x with i := (iN : Int) + 1 } (rec ++ [ws.getD (bN + (f + iN)) 0]) ws (n + 1) := by
  have hadd : IntKind.i64.wrap ((f : Int) + (iN : Int)) = ((f + iN : Nat) : Int) := by
    have hlen : bN + (f + iN) ≤ 4096 := by have := h.memory.short; omega
    rw [IntKind.wrap_i64]; omega
  have HI : Hid (0 ≤ x.i ∧ x.i ≤ 1000000) := Lib.hid (by omega)
  obtain ⟨v, hp, he⟩ := h
  have HP := Lib.hid hp
  have HE := Lib.hid he
  obtain ⟨uv, huv⟩ : ∃ uv, ws.getD (bN + (f + iN)) 0 = uv := ⟨_, rfl⟩
  have HUW : Hid ((Lit.int .u32 uv).wf = true) := Lib.hid (by
    have hget : ws.getD (bN + (f + iN)) 0 = ws[bN + (f + iN)] := by simp [List.getD, hj]
    rw [← huv, hget]
    exact hp.mem.wf _ (List.getElem_mem hj))
  have HUV := Lib.hid huv
  rw [huv]
  have NB : Hid (bx ∉ (mb :: (sv.ownBlock.toList ++ v.ownBlock.toList))) := Lib.hid (by simp; exact ⟨hp.ne, fun hh => hp.ns bx hh rfl, fun hh => (hp.nv bx hh).1 rfl⟩)
  have e8 : W.cell? ⟨bx, 8, none⟩ = some (.int .i64 x.op) := hp.box.cell rfl
  have b2 : (x.op == 2) = false := by simpa using hop.1
  have b3 : (x.op == 3) = false := by simpa using hop.2
  have HM := Lib.hid hm
  have HB := Lib.hid hb
  have HJ := Lib.hid hj
  have HN := Lib.hid hn
  have HRL := Lib.hid hrl
  have HIE := Lib.hid hi
  obtain ⟨i0, hi0, hz0, hz1, hz2⟩ := info_parts mem.info32
  have eS0 : W.cell? ⟨bx, 16, none⟩ = some (v) := HP.out.box.cell rfl
  have eS1 : W.cell? ⟨bx, 11, none⟩ = some (.int .i64 (iN : Int)) := by rw [← hi]; exact HP.out.box.cell rfl
  have KEEP := Lib.hid (fun (V : World) (h : Chg (mb :: (sv.ownBlock.toList ++ v.ownBlock.toList)) W V) => (⟨h.keep eS0 NB.out, h.keep eS1 NB.out, Lib.hid h⟩ : (fun V : World => V.cell? ⟨bx, 16, none⟩ = some (v) ∧ V.cell? ⟨bx, 11, none⟩ = some (.int .i64 (iN : Int)) ∧ Hid (Chg (mb :: (sv.ownBlock.toList ++ v.ownBlock.toList)) W V)) V))
  clear eS0 eS1
  clear hp he huv hop hm hb hi hrl hil hj hn
  go_enter Try.func88, Try.ntmps88
  go_wp2_with fail
  have hHeld : (fun V : World => V.cell? ⟨bx, 16, none⟩ = some (v) ∧ V.cell? ⟨bx, 11, none⟩ = some (.int .i64 (iN : Int)) ∧ Hid (Chg (mb :: (sv.ownBlock.toList ++ v.ownBlock.toList)) W V)) W.drew := KEEP.out _ (Chg.refl _ _).drew
  refine wp_region_planT (fun V : World => V.cell? ⟨bx, 16, none⟩ = some (v) ∧ V.cell? ⟨bx, 11, none⟩ = some (.int .i64 (iN : Int)) ∧ Hid (Chg (mb :: (sv.ownBlock.toList ++ v.ownBlock.toList)) W V)) 17 [(0, true, some 35), (1, true, some 36), (2, true, some 37), (3, true, some 38), (4, true, some 39), (5, true, some 40), (6, true, some 41), (7, true, some 42), (8, true, some 43), (9, true, some 44), (10, true, some 45), (11, true, some 46), (12, false, some 47), (13, false, some 48), (14, false, some 49), (15, true, some 50), (16, true, some 51)] (by kernel_rfl) (by kernel_rfl) (by kernel_rfl) (by kernel_rfl) (by kernel_rfl) (fun d c a v w h => by cases d <;> exact h) hHeld ?_
  repeat (refine planT_read (v := ?_) rfl rfl ?_ ?_ ?_; rotate_left; (focus rfl); (focus (intro u hSw; (try dsimp only at hSw); go_simp; (try with_reducible rfl))); (try simp only [Act.put, List.setIfInBounds_toArray, List.set_cons_zero, List.set_cons_succ]))
  refine planT_do rfl rfl ?_ (fun K hK => ?_)
  · rfl
  go_simp
  go_wp2_with (go_at_call 86; refine (Read_at bN (f + iN) HM.out HB.out HJ.out HN.out (St.start (HP.out.keep (Chg.refl _ _).drew))).mono ?_; rintro e w1 ⟨rfl, hx⟩; rw [HUV.out]; have HX := Lib.hid hx; clear hx)
  have HP1 : Hid (Pair T bx mb sv w1 x v rec ws (n + 1)) := Lib.hid ((HP.out.keep (Chg.refl _ _).drew).byMem HX.out.2.2 HX.out.2.1)
  have HE1 : Hid (Ev bx mb sv W0 r0 w1 v) := Lib.hid ⟨(HE.out.chg.drew).trans (HX.out.2.2.mono (by intro z hz; simp at hz ⊢; rcases hz with hz | hz <;> simp [hz])), HE.out.own⟩
  have HC1 : Hid (Chg (mb :: (sv.ownBlock.toList ++ v.ownBlock.toList)) W w1) := Lib.hid ((Chg.refl _ W).drew.trans (HX.out.2.2.mono (by intro z hz; simp at hz ⊢; rcases hz with hz | hz <;> simp [hz])))
  refine hK.out _ _ (KEEP.out _ HC1.out) (fun hHeld2 => ?_)
  clear hK K hHeld HX
  try simp only [Act.put, List.setIfInBounds_toArray, List.set_cons_zero, List.set_cons_succ]
  refine planT_do rfl rfl ?_ (fun K hK => ?_)
  · rfl
  go_simp
  refine hK.out _ _ (KEEP.out _ (HC1.out.alloc _)) (fun hHeld3 => ?_)
  clear hK K hHeld2
  try simp only [Act.put, List.setIfInBounds_toArray, List.set_cons_zero, List.set_cons_succ]
  refine planT_do rfl rfl ?_ (fun K hK => ?_)
  · rfl
  have HP2 : Hid (Pair T bx mb sv (w1.alloc (.cells #[.int .u32 uv] 22)) x v rec ws (n + 1)) := Lib.hid (HP1.out.keep ((Chg.refl _ _).alloc _))
  have HE2 : Hid (Ev bx mb sv W0 r0 (w1.alloc (.cells #[.int .u32 uv] 22)) v) := Lib.hid ⟨HE1.out.chg.alloc _, HE1.out.own⟩
  have hb10 : (w1.alloc (.cells #[.int .u32 uv] 22)).cell? ⟨w1.heap.size, 0, none⟩ = some (.int .u32 uv) := (Blk.new w1 #[.int .u32 uv] 22).cell rfl
  refine wp_append_one _ (.tmp 39) (.tmp 48) 23 rfl 0 22 i0 (.int .u32 0) 4 Try.underlying23 hi0 hz0 hz1 hz2 rfl v rec.length _ rfl HP2.out.row w1.heap.size (.int .u32 uv) rfl hb10 rfl (by have := HRL.out; unfold maxLen; omega) (by have := HRL.out; omega) (by simp) ?_
  intro v3 w3 hown3 hg3 hb3
  have HC3 : Hid (Chg v.ownBlock.toList (w1.alloc (.cells #[.int .u32 uv] 22)) w3) := Lib.hid ((Chg.refl _ _).grown hg3 (fun y hy => .inl (by rw [hy]; simp)))
  have H4 : Hid (St T bx mb sv W0 r0 (w3.setCell ⟨bx, 16, none⟩ v3) x (rec ++ [uv]) ws (n + 1)) := Lib.hid (St.push HP2.out HE2.out HC3.out hown3 (fun y hy => by rcases hb3 y hy with hh | hh; exact .inl hh; right; omega) HUW.out (by have := HRL.out; omega))
  have HB3 := Lib.hid (HP2.out.box.keep HC3.out (fun hh => (HP2.out.nv bx (by simpa using hh)).1 rfl))
  have HC4 : Hid (Chg (mb :: (sv.ownBlock.toList ++ v.ownBlock.toList)) W w3) := Lib.hid ((HC1.out.alloc _).trans (HC3.out.mono (by intro z hz; simp at hz ⊢; simp [hz])))
  obtain ⟨a3, c3, rfl, _⟩ := reads_slice (Reads.of_own hown3 (by decide))
  clear hown3 hg3 hb3 hb10 hHeld3
  refine hK.out _ _ (KEEP.out _ HC4.out) (fun hHeld => ?_)
  clear hK K
  try simp only [Act.put, List.setIfInBounds_toArray, List.set_cons_zero, List.set_cons_succ]
  repeat (refine planT_read (v := ?_) rfl rfl ?_ ?_ ?_; rotate_left; (focus rfl); (focus (intro u hSw; (try dsimp only at hSw); go_simp; (try with_reducible rfl))); (try simp only [Act.put, List.setIfInBounds_toArray, List.set_cons_zero, List.set_cons_succ]))
  have e16 : w3.cell? ⟨bx, 16, none⟩ = some v := HB3.out.cell rfl
  have f16 := HB3.out.free 16
  refine planT_last rfl ?_ (fun K hK => ?_)
  · rfl
  go_simp
  refine hK.out _ _ ?_
  clear hK K e16 f16 hHeld KEEP
  refine then_gen (R := fun V => Hid (St T bx mb sv W0 r0 V x (rec ++ [uv]) ws (n + 1))) H4 ?_
  rintro W4 H5
  have e1 : W4.cell? ⟨bx, 1, none⟩ = some (.int .i64 x.w) := H5.out.cell 1 _ (fun _ => rfl)
  go_wp2_with (go_at_call 104; refine (Each_any _ HI.out H5.out).mono ?_; rintro e W9 ⟨rfl, hx⟩; have HX := Lib.hid hx; clear hx)
  go_ret
  rw [← HIE.out]
  exact ⟨rfl, HX.out⟩

set_option maxHeartbeats 4000000 in
theorem Told_any {T : TypeId} {bx mb : Nat} {sv v : Value} {W : World} {x : Core} {rec ws : List Int} {n : Int} (h : Pair T bx mb sv W x v rec ws n) :
    Calls Try.prog 65 #[.pointer (some ⟨bx, 0, none⟩)] W fun e W' => ∃ v', e = .returned (.tuple #[v', .int .i64 (if x.over then x.code else 0)]) ∧ OwnW W' W.heap.size v' (if x.over then rec else []) ∧ Chg [] W W' := by
  have HP := Lib.hid h
  have HR := Lib.hid (OwnW.reads h.row h.wf)
  have HZ : Hid (rec.length ≤ 1000000) := Lib.hid (by have := h.short; omega)
  obtain ⟨ra, rcap, rfl, _⟩ := reads_slice HR.out.1
  clear h
  cases hov : x.over
  · have e22 : W.cell? ⟨bx, 22, none⟩ = some (.bool false) := by rw [← hov]; exact HP.out.box.cell rfl
    clear hov
    go_enter Try.func65, Try.ntmps65
    go_wp2_with fail
    go_ret2
    exact ⟨_, rfl, ⟨by simp, .inl ⟨rfl, rfl⟩⟩, Chg.refl _ _⟩
  · have e22 : W.cell? ⟨bx, 22, none⟩ = some (.bool true) := by rw [← hov]; exact HP.out.box.cell rfl
    clear hov
    go_enter Try.func65, Try.ntmps65
    go_wp2_with fail
    have eS0 : W.cell? ⟨bx, 16, none⟩ = some (Value.slice ra rec.length rcap) := HP.out.box.cell rfl
    have eS1 : W.cell? ⟨bx, 20, none⟩ = some (.int .i64 x.code) := HP.out.box.cell rfl
    have KEEP := Lib.hid (fun (V : World) (h : Chg [] W V) => (⟨h.keep eS0 (by simp), h.keep eS1 (by simp), Lib.hid h⟩ : (fun V : World => V.cell? ⟨bx, 16, none⟩ = some (Value.slice ra rec.length rcap) ∧ V.cell? ⟨bx, 20, none⟩ = some (.int .i64 x.code) ∧ Hid (Chg [] W V)) V))
    clear eS0 eS1
    have hHeld : (fun V : World => V.cell? ⟨bx, 16, none⟩ = some (Value.slice ra rec.length rcap) ∧ V.cell? ⟨bx, 20, none⟩ = some (.int .i64 x.code) ∧ Hid (Chg [] W V)) (World.drew W) := KEEP.out _ (Chg.refl _ _).drew
    refine wp_region_plan (fun V : World => V.cell? ⟨bx, 16, none⟩ = some (Value.slice ra rec.length rcap) ∧ V.cell? ⟨bx, 20, none⟩ = some (.int .i64 x.code) ∧ Hid (Chg [] W V)) [(0, true, some 9), (1, true, some 10), (2, true, some 11), (3, true, some 12), (5, true, some 14), (6, true, some 15), (7, true, some 16), (8, true, some 17), (4, false, some 13), (9, true, some 2), (10, true, some 3)] (by kernel_rfl) (by kernel_rfl) (by kernel_rfl) (by kernel_rfl) (fun d c a v w h => by cases d <;> exact h) hHeld ?_
    repeat (first
      | (refine planWp_read (v := ?_) rfl rfl ?_ ?_ ?_; rotate_left; (focus rfl); (focus (intro u hSw; (try dsimp only at hSw); go_simp; (try with_reducible rfl))); (try simp only [Act.put, List.setIfInBounds_toArray, List.set_cons_zero, List.set_cons_succ]))
      | (refine planWp_skip rfl rfl ?_ ?_; (focus rfl); (try simp only [Act.put, List.setIfInBounds_toArray, List.set_cons_zero, List.set_cons_succ]))
      | (refine planWp_leave rfl rfl ?_ hHeld ?_; (focus rfl); (try simp only [Act.put, List.setIfInBounds_toArray, List.set_cons_zero, List.set_cons_succ]))
      | (refine planWp_do rfl rfl ?_ (fun K hK => ?_); (focus rfl); go_simp; (try go_wp2_with (go_at_call 84; refine (Clone_words _ _ _ (HR.out.chg hHeld.2.2.out) HZ.out).mono ?_; rintro e w1 ⟨v1, rfl, ho1, hcx⟩; have HO1 := Lib.hid (own_base ho1 hHeld.2.2.out.size); have HCX := Lib.hid hcx; clear hcx ho1)); refine hK.out _ _ ?_ (fun hHeld2 => ?_); (focus (exact KEEP.out _ (Chg.trans hHeld.2.2.out HCX.out))); clear hK K hHeld; have hHeld := hHeld2; clear hHeld2; (try simp only [Act.put, List.setIfInBounds_toArray, List.set_cons_zero, List.set_cons_succ])))
    refine planWp_nil ?_
    have HC := Lib.hid hHeld.2.2.out
    clear hHeld KEEP
    go_wp2_with fail
    go_ret2
    exact ⟨_, rfl, HO1.out, HC.out⟩
end Go.Proofs.Ytbbpnpokccfhjaa.core
