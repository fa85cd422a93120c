/- The kernel: agenda.New, Len, Peek, Push, Pop. -/
import Derived.Test.YtfkokbeloenfdaaDoorKrnC
namespace Go.Proofs.YtfkokbeloenfdaaDoor.krn
open Go Go.RowKit Go.Proofs.YtfkokbeloenfdaaDoor.kit
set_option linter.unusedVariables false
set_option linter.unusedSimpArgs false
set_option maxRecDepth 20000
def AgAt (w : World) (B db : Nat) (room : Int) (a : Option Addr) (c : Nat) (ds : List Du) : Prop := agB w db room (.slice a ds.length c) ∧ OwnD w B (.slice a ds.length c) ds
theorem own_type {w : World} {B s n : Nat} {T : TypeId} {v : Value} {xs : List Value} (h : w.ownsRow B T s v n xs) {b : Nat} {cs : Array Value} {T' : TypeId} (hb : Blk w b cs T') (hT : T ≠ T') : ∀ y, v.ownBlock = some y → y ≠ b := by
  intro y hy he
  subst he
  rcases h.2 with ⟨rfl, _⟩ | ⟨g, cap, cur, rfl, hB, hg, h4⟩
  · simp [Value.ownBlock] at hy
  · simp [Value.ownBlock] at hy
    subst hy
    unfold Blk at hb
    rw [hg] at hb
    simp at hb
    exact hT hb.2
theorem AgAt.ne {w : World} {B db : Nat} {room : Int} {a : Option Addr} {c : Nat} {ds : List Du} (h : AgAt w B db room a c ds) : ∀ y, (Value.slice a ds.length c).ownBlock = some y → y ≠ db := own_type h.2 h.1 (by decide)
theorem AgAt.keep {w w' : World} {B db : Nat} {room : Int} {a : Option Addr} {c : Nat} {ds : List Du} {L : List Nat} (h : AgAt w B db room a c ds) (k : Chg L w w') (h1 : db ∉ L) (h2 : ∀ y, (Value.slice a ds.length c).ownBlock = some y → y ∉ L) : AgAt w' B db room a c ds := ⟨h.1.keep k h1, own_keep h.2 k h2⟩
theorem AgAt.fresh {w w' : World} {B db : Nat} {room : Int} {a : Option Addr} {c : Nat} {ds : List Du} (h : AgAt w B db room a c ds) (k : Chg [] w w') : AgAt w' B db room a c ds := h.keep k (by simp) (by simp)
theorem OwnD.shrink {w : World} {B g c : Nat} {l : List Du} (h : OwnD w B (.slice (some ⟨g, 0, none⟩) l.length c) l) (m : Nat) (hm : m ≤ l.length) : OwnD w B (.slice (some ⟨g, 0, none⟩) (l.take m).length c) (l.take m) := by
  have hlen : (l.take m).length = m := by rw [List.length_take]; omega
  have hfl : ∀ (l : List Du) (m : Nat), (l.flatMap Du.cells).take (m * 2) = (l.take m).flatMap Du.cells := by
    intro l
    induction l with
    | nil => intro m; simp
    | cons x l ih =>
      intro m
      cases m with
      | zero => simp
      | succ m =>
        rw [show (m + 1) * 2 = m * 2 + 1 + 1 by omega, List.take_succ_cons, List.flatMap_cons, List.flatMap_cons, ← ih m]
        rfl
  obtain ⟨h1, h2⟩ := h
  unfold OwnD World.ownsRow
  rw [hlen]
  refine ⟨?_, ?_⟩
  · rw [← hfl, List.length_take, h1]
    have : m * 2 ≤ l.length * 2 := by omega
    omega
  · rcases h2 with ⟨h3, _⟩ | ⟨g', cap, cur, h3, hB, hg, hnc, hcm, hcs, htake⟩
    · simp at h3
    · simp only [Value.slice.injEq, Option.some.injEq, Addr.mk.injEq, and_true, true_and] at h3
      obtain ⟨rfl, rfl⟩ := h3
      refine .inr ⟨_, _, cur, rfl, hB, hg, by omega, hcm, hcs, ?_⟩
      rw [← hfl, ← htake, List.take_take]
      congr 1
      omega
theorem results_row_tmp {P : Program} {fn : Func} {p q : Tmp} {ty : TypeId} (h : fn.results = #[.cell p ty, .tmp q]) (tmps : Array Value) (w : World) (g : Nat) (t : TypeId) (cs : Array Value) (fr : Nat × Nat) (d : TypeDesc)
    (hp : tmps.getD p undef = .pointer (some ⟨g, 0, none⟩)) (hg : w.heap[g]? = some (.cells cs t fr))
    (hu : P.underlying ty = some d) (hd : (match d with | .struct _ | .array _ _ => true | _ => false) = true) (hi : (P.info? ty).map (·.size) = some cs.size) :
    (results fn tmps).run P w = .ok (.tuple #[.agg cs, tmps.getD q undef]) w := by
  have hp' : tmps[p]?.getD undef = .pointer (some ⟨g, 0, none⟩) := by simpa using hp
  simp [results, h, hp', asAddr, run_loadVar_row w g t ty cs fr d hg hu hd hi]
theorem Len_any (db : Nat) (room : Int) (a : Option Addr) (c n : Nat) (w : World) (h : agB w db room (.slice a n c)) :
    Calls Tryd.prog 62 #[.pointer (some ⟨db, 0, none⟩)] w fun e w' => e = .returned (.int .i64 (n : Int)) ∧ w = w' := by
  have b1 : w.cell? ⟨db, 1, none⟩ = some (.slice a n c) := h.cell rfl
  clear h
  go_enter Tryd.func62, Tryd.ntmps62
  go_wp2
  go_ret
  exact ⟨rfl, rfl⟩
def peekV (ds : List Du) : Value := match ds with
  | [] => .tuple #[.agg #[.int .i64 0, .int .i64 0], .bool false]
  | d :: _ => .tuple #[d.val, .bool true]
set_option maxHeartbeats 2000000 in
theorem Peek_any (B db : Nat) (room : Int) (a : Option Addr) (c : Nat) (ds : List Du) (w : World) (h : AgAt w B db room a c ds) :
    Calls Tryd.prog 53 #[.pointer (some ⟨db, 0, none⟩)] w fun e w' => e = .returned (peekV ds) ∧ Chg [] w w' := by
  have HW1 : Hid (Chg [] w (w.alloc (.cells #[.int .i64 0, .int .i64 0] 35))) := Lib.hid ((Chg.refl [] w).alloc _)
  have HBN : Hid (Blk (w.alloc (.cells #[.int .i64 0, .int .i64 0] 35)) w.heap.size #[.int .i64 0, .int .i64 0] 35) := Lib.hid (Blk.new w _ _)
  have HL := Lib.hid (Len_any db room a c ds.length _ (h.fresh HW1.out).1)
  cases ds with
  | nil =>
    clear h
    go_enter Tryd.func53, Tryd.ntmps53
    go_wp2_with (first | (go_at_call 62; refine HL.out.mono ?_; rintro e w' ⟨rfl, rfl⟩) | (refine Go.Proofs.YtfkokbeloenfdaaDoor.blk.wpList_store_blk rfl 35 (.tmp 2) (.tmp 7) rfl w.heap.size #[.int .i64 0, .int .i64 0] rfl rfl HBN.out szDue rfl (by simp [Value.oneCell']) ?_; intro w9 hb9 hc9; have HB9 := Lib.hid hb9; have HC9 := Lib.hid hc9; clear hb9 hc9))
    refine bodyPost_ret (results_row_tmp rfl _ _ w.heap.size 35 #[.int .i64 0, .int .i64 0] (0, 0) _ rfl HB9.out Tryd.underlying35 rfl szDue) rfl ?_
    exact ⟨rfl, HW1.out.into HC9.out (by simp)⟩
  | cons d r =>
    obtain ⟨g, c', hv, hB, hg⟩ := own_addr h.2 (by simp)
    simp only [Value.slice.injEq] at hv
    obtain ⟨rfl, -, rfl⟩ := hv
    have hat := h.2.at 0 (by simp)
    have q0 := HW1.out.keep hat.1.1 (by simp)
    have q1 := HW1.out.keep hat.1.2 (by simp)
    have b1 := HW1.out.keep (h.1.cell (o := 1) rfl) (by simp)
    simp only [Nat.zero_mul, Nat.zero_add, List.getD_cons_zero] at q0 q1
    have ix := index_at (t := 23) Tryd.underlying23 szDue g (d :: r).length c 0 (by simp)
    simp only [Nat.zero_mul, Int.natCast_zero] at ix
    have hne : ¬ (((d :: r).length : Int) = 0) := by simp; omega
    obtain ⟨n, hn⟩ : ∃ n, (d :: r).length = n := ⟨_, rfl⟩
    obtain ⟨at_, tk⟩ := d
    rw [hn] at ix hne HL b1
    have hne' : ((n : Int) == 0) = false := by simpa using hne
    clear hat h hn
    go_enter Tryd.func53, Tryd.ntmps53
    go_wp2_with (first | (go_at_call 62; refine HL.out.mono ?_; rintro e w' ⟨rfl, rfl⟩) | (refine Go.Proofs.YtfkokbeloenfdaaDoor.blk.wpList_store_blk rfl 35 (.tmp 2) (.tmp 13) rfl w.heap.size #[.int .i64 at_, .int .i64 tk] rfl rfl HBN.out szDue rfl (by simp [Value.oneCell']) ?_; intro w9 hb9 hc9; have HB9 := Lib.hid hb9; have HC9 := Lib.hid hc9; clear hb9 hc9))
    refine bodyPost_ret (results_row_tmp rfl _ _ w.heap.size 35 #[.int .i64 at_, .int .i64 tk] (0, 0) _ rfl HB9.out Tryd.underlying35 rfl szDue) rfl ?_
    exact ⟨rfl, HW1.out.into HC9.out (by simp)⟩
/-- append of a struct that was just laid: what comes, and where it lies -/
theorem wp_append_row {P : Program} {w : World} {o : Oper} {ac : Act} {K : Act → World → Prop} {Q : Exit → Act → World → Prop} (s x : Operand) (t : TypeId)
    (ho : o.op = .call { callee := .builtin .append, args := #[s, x], argTypes := #[t, t] })
    (base : Nat) (e : TypeId) (i : TypeInfo) (z : Value) (size bytes : Nat) (ht : P.underlying t = some (.slice e)) (hi : P.info? e = some i) (hz : i.zero = some z)
    (hsize : i.size = size) (hby : i.bytes = bytes) (hzs : z.cells.size = size) (hsz : 0 < size)
    (v : Value) (n : Nat) (xs : List Value) (hs : ac.eval s = v) (hown : w.ownsRow base e size v n xs)
    (b : Nat) (us : List Value) (hx : ac.eval x = .slice (some ⟨b, 0, none⟩) 1 1) (hl : us.length = 1 * size) (hb : ∀ (j : Nat) u, us[j]? = some u → w.cell? ⟨b, j, none⟩ = some u) (h1 : ∀ u ∈ us, u.oneCell' = true)
    (h63 : n + 1 ≤ maxLen) (hbytes : (n + 1) * bytes ≤ 140737488355328) (hbase : base ≤ w.heap.size)
    (h : ∀ v' w', w'.ownsRow base e size v' (n + 1) (xs ++ us) → w.grownBy w' v.ownBlock → (∀ y, v'.ownBlock = some y → v.ownBlock = some y ∨ y = w.heap.size) → K (ac.put o.dst v') w') : o.wp P ac w K Q := by
  have hc : ∀ (j : Nat) y, us[j]? = some y → w.cell? ((⟨b, 0, none⟩ : Addr).add j) = some y := by
    intro j y hy
    rw [add_plain, Nat.zero_add]
    exact hb j y hy
  obtain ⟨v', w', hr, h2, h3, _⟩ := run_append_own (P := P) w base t o.type e i z size bytes ht hi hz hsize hby hzs hsz v n xs hown ⟨b, 0, none⟩ 1 1 us hl hc h1 h63 hbytes hbase
  have h4 := append_blk (P := P) w base t o.type e i z size bytes ht hi hz hsize hby hzs hsz v n xs hown ⟨b, 0, none⟩ 1 1 us hl (by decide) hc h1 h63 hbytes v' w' hr
  unfold Oper.wp execOp
  simp only [ho, resolve, invoke, builtin, Sem.run_bind, Sem.run_pure, Result.andThen_ok, List.map_toArray, List.map_cons, List.map_nil, hs, hx, hr]
  exact h v' w' h2 h3 h4
theorem OwnD.snoc {w : World} {B : Nat} {v : Value} {xs : List Du} {t n : Int} (h : w.ownsRow B 35 2 v (xs.length + 1) (xs.flatMap Du.cells ++ [.int .i64 t, .int .i64 n])) : OwnD w B v (xs ++ [⟨t, n⟩]) := by
  unfold OwnD
  rw [List.length_append, List.flatMap_append]
  simpa [Du.cells] using h
def pushM (room : Int) (ds : List Du) (d : Du) : List Du := if (ds.length : Int) < room then upM (ds ++ [d]) ds.length else ds
set_option maxHeartbeats 4000000 in
theorem Push_any (B db : Nat) (room : Int) (a : Option Addr) (c : Nat) (ds : List Du) (at_ tk : Int) (w : World) (h : AgAt w B db room a c ds) (h0 : 0 ≤ at_) (h1 : 0 ≤ tk) (hl : ds.length < 4096) (hB : B ≤ w.heap.size) :
    Calls Tryd.prog 23 #[.pointer (some ⟨db, 0, none⟩), .agg #[.int .i64 at_, .int .i64 tk]] w fun e w' => (∃ v, e = .returned v) ∧ (∃ a' c', AgAt w' B db room a' c' (pushM room ds ⟨at_, tk⟩) ∧ (∀ y, (Value.slice a' (pushM room ds ⟨at_, tk⟩).length c').ownBlock = some y → (Value.slice a ds.length c).ownBlock = some y ∨ w.heap.size ≤ y)) ∧ Chg (db :: (Value.slice a ds.length c).ownBlock.toList) w w' := by
  have m0 : ¬ at_ < 0 := by omega
  have m1 : ¬ tk < 0 := by omega
  obtain ⟨W1, hW1⟩ : ∃ W1, w.alloc (.cells #[.int .i64 at_, .int .i64 tk] 35) = W1 := ⟨_, rfl⟩
  have HC1 : Hid (Chg [] w W1) := Lib.hid (by rw [← hW1]; exact (Chg.refl [] w).alloc _)
  have HBX : Hid (Blk W1 w.heap.size #[.int .i64 at_, .int .i64 tk] 35) := Lib.hid (by rw [← hW1]; exact Blk.new w _ _)
  have HA := Lib.hid (h.fresh HC1.out)
  have HNE := Lib.hid h.ne
  have HLT : Hid (∀ y, (Value.slice a ds.length c).ownBlock = some y → B ≤ y ∧ y < w.heap.size) := Lib.hid (fun y hy => World.ownsRow.lt h.2 y hy)
  have HDB : Hid (db < w.heap.size) := Lib.hid h.1.lt
  have HL := Lib.hid hl
  have HBB := Lib.hid hB
  have HI0 := Lib.hid (info_parts infoDue)
  have x0 : W1.cell? ⟨w.heap.size, 0, none⟩ = some (.int .i64 at_) := HBX.out.cell rfl
  have x1 : W1.cell? ⟨w.heap.size, 1, none⟩ = some (.int .i64 tk) := HBX.out.cell rfl
  have FA : Hid (∀ V, Chg [] W1 V → (V.cell? ⟨db, 0, none⟩ = some (.int .i64 room) ∧ V.cell? ⟨db, 1, none⟩ = some (.slice a ds.length c)) ∧ V.cell? ⟨w.heap.size, 0, none⟩ = some (.int .i64 at_) ∧ V.cell? ⟨w.heap.size, 1, none⟩ = some (.int .i64 tk)) :=
    Lib.hid (fun V hV => ⟨⟨(HA.out.1.keep hV (by simp)).cell rfl, (HA.out.1.keep hV (by simp)).cell rfl⟩, (HBX.out.keep hV (by simp)).cell rfl, (HBX.out.keep hV (by simp)).cell rfl⟩)
  clear h h0 h1 hl hB
  go_enter Tryd.func23, Tryd.ntmps23
  go_upto_region 5 with fail
  clear hW1 x0 x1
  have hHeld : (fun V : World => Hid (Chg [] W1 V)) (World.drew W1) := Lib.hid (Chg.refl _ _).drew
  refine wp_region_plan (fun V : World => Hid (Chg [] W1 V)) [(0, true, some 18), (1, true, some 19), (2, true, some 20), (3, true, some 21), (4, true, some 22), (5, true, some 23), (6, true, some 24), (7, true, some 25), (8, true, some 26), (9, true, some 27), (10, true, some 17)] (by kernel_rfl) (by kernel_rfl) (by kernel_rfl) (by kernel_rfl) (fun d c a v w h => by cases d <;> exact h) hHeld ?_
  repeat (first
    | (refine planWp_read (v := ?_) rfl rfl ?_ ?_ ?_; rotate_left; (focus rfl); (focus (intro u hSw; (try dsimp only at hSw); obtain ⟨⟨h0, h1⟩, h2, h3⟩ := FA.out u hSw.out; go_simp; (try with_reducible rfl))); (try simp only [Act.put, List.setIfInBounds_toArray, List.set_cons_zero, List.set_cons_succ])))
  refine planWp_nil ?_
  obtain ⟨W2, hW2⟩ : ∃ W2, W1.drew = W2 := ⟨_, rfl⟩
  have HC2 : Hid (Chg [] W1 W2) := Lib.hid (by rw [← hW2]; exact (Chg.refl _ _).drew)
  rw [hW2]
  clear hW2 hHeld
  by_cases hr : (ds.length : Int) < room
  · have r1 : ¬ room ≤ (ds.length : Int) := by omega
    have HPM : Hid (pushM room ds ⟨at_, tk⟩ = upM (ds ++ [Du.mk at_ tk]) ds.length) := Lib.hid (by unfold pushM; rw [if_pos hr])
    clear hr
    go_upto_region 7 with fail
    have HDBN : Hid (∀ y ∈ (Value.slice a ds.length c).ownBlock.toList, y ≠ db ∧ y ≠ w.heap.size) := Lib.hid (fun y hy => ⟨HNE.out y (Option.mem_toList.1 hy), by have := (HLT.out y (Option.mem_toList.1 hy)).2; omega⟩)
    have FB : Hid (∀ V, Chg (Value.slice a ds.length c).ownBlock.toList W2 V → V.cell? ⟨db, 1, none⟩ = some (.slice a ds.length c) ∧ V.cell? ⟨w.heap.size, 0, none⟩ = some (.int .i64 at_) ∧ V.cell? ⟨w.heap.size, 1, none⟩ = some (.int .i64 tk)) :=
      Lib.hid (fun V hV => (by
        obtain ⟨⟨h0, h1⟩, h2, h3⟩ := FA.out W2 HC2.out
        exact ⟨hV.keep h1 (fun hm => (HDBN.out _ hm).1 rfl), hV.keep h2 (fun hm => (HDBN.out _ hm).2 rfl), hV.keep h3 (fun hm => (HDBN.out _ hm).2 rfl)⟩))
    have hHeld : (fun V : World => Hid (Chg (Value.slice a ds.length c).ownBlock.toList W2 V)) (World.drew W2) := Lib.hid (Chg.refl _ _).drew
    refine wp_region_planT (fun V : World => Hid (Chg (Value.slice a ds.length c).ownBlock.toList W2 V)) 10 [(0, true, some 28), (1, true, some 29), (2, true, some 30), (3, true, some 31), (4, true, some 32), (5, true, some 33), (6, false, some 34), (7, false, some 35), (8, true, some 36), (9, true, some 37)] (by kernel_rfl) (by kernel_rfl) (by kernel_rfl) (by kernel_rfl) (by kernel_rfl) (fun d c a v w h => by cases d <;> exact h) hHeld ?_
    repeat (first
      | (refine planT_read (v := ?_) rfl rfl ?_ ?_ ?_; rotate_left; (focus rfl); (focus (intro u hSw; (try dsimp only at hSw); obtain ⟨h1, h2, h3⟩ := FB.out u hSw.out; go_simp; (try with_reducible rfl))); (try simp only [Act.put, List.setIfInBounds_toArray, List.set_cons_zero, List.set_cons_succ])))
    refine planT_do rfl rfl ?_ (fun K hK => ?_)
    focus rfl
    go_simp
    go_wp2_with fail
    refine hK.out _ _ ?_ (fun hHeld2 => ?_)
    focus exact Lib.hid (hHeld.out.alloc _)
    clear hK K
    try simp only [Act.put, List.setIfInBounds_toArray, List.set_cons_zero, List.set_cons_succ]
    have HOA : Hid (OwnD (W2.drew.alloc (.cells #[.int .i64 at_, .int .i64 tk] 35)) B (.slice a ds.length c) ds) := Lib.hid (own_keep HA.out.2 ((HC2.out.drew).alloc _) (by simp))
    have HBN := Lib.hid (Blk.new W2.drew #[.int .i64 at_, .int .i64 tk] 35)
    obtain ⟨i0, hi, hz0, hz1, hz2⟩ := HI0.out
    refine planT_do rfl rfl ?_ (fun K hK => ?_)
    focus rfl
    refine wp_append_row (o := ⟨some 35, _, _, _, _, _⟩) (.tmp 32) (.tmp 34) 23 rfl B 35 i0 (.agg #[.int .i64 0, .int .i64 0]) 2 16 Tryd.underlying23 hi hz0 hz1 hz2 rfl (by decide) (.slice a ds.length c) ds.length (ds.flatMap Du.cells) rfl HOA.out W2.drew.heap.size [.int .i64 at_, .int .i64 tk] rfl rfl (fun j u hu => HBN.out.cell (by rw [← Array.getElem?_toList]; exact hu)) (by simp [Value.oneCell']) (by have := HL.out; unfold maxLen; omega) (by have := HL.out; omega) (by have h1 := HBB.out; have h2 := (HC1.out.trans HC2.out).size; simp; omega) ?_
    intro v' w3 hown' hgrow hblk
    have HOW := Lib.hid (OwnD.snoc hown')
    have HG3 : Hid (Chg (Value.slice a ds.length c).ownBlock.toList W2 w3) := Lib.hid ((((Chg.refl _ W2).drew).alloc _).grown hgrow (fun q hq => .inl (Option.mem_toList.2 hq)))
    have HNB : Hid (∀ y, v'.ownBlock = some y → (Value.slice a ds.length c).ownBlock = some y ∨ w.heap.size + 1 ≤ y) := Lib.hid (fun y hy => by
      rcases hblk y hy with h | h
      · exact .inl h
      · refine .inr ?_
        rw [h]
        exact Nat.le_trans (Nat.le_trans HBX.out.lt HC2.out.size) (Nat.le_of_lt HBN.out.lt))
    obtain ⟨a2, c2, rfl⟩ := own_open hown'
    refine hK.out _ _ ?_ (fun hHeld3 => ?_)
    focus exact HG3
    clear hown' hgrow hblk hK K hHeld2 hHeld3 hHeld
    try simp only [Act.put, List.setIfInBounds_toArray, List.set_cons_zero, List.set_cons_succ]
    repeat (first
      | (refine planT_read (v := ?_) rfl rfl ?_ ?_ ?_; rotate_left; (focus rfl); (focus (intro u hSw; go_simp; (try with_reducible rfl))); (try simp only [Act.put, List.setIfInBounds_toArray, List.set_cons_zero, List.set_cons_succ])))
    refine planT_last rfl rfl (fun K hK => ?_)
    have HDB3 : Hid (agB w3 db room (.slice a ds.length c)) := Lib.hid ((HA.out.1.keep HC2.out (by simp)).keep HG3.out (fun hm => (HDBN.out _ hm).1 rfl))
    have b1 : w3.cell? ⟨db, 1, none⟩ = some (.slice a ds.length c) := HDB3.out.cell rfl
    have f1 := HDB3.out.free 1
    go_wp2
    refine hK.out _ _ ?_
    clear hK K
    obtain ⟨w4, hw4⟩ : ∃ w4, w3.setCell ⟨db, 1, none⟩ (.slice a2 (ds.length + 1) c2) = w4 := ⟨_, rfl⟩
    have HDB4 : Hid (agB w4 db room (.slice a2 (ds.length + 1) c2)) := Lib.hid (by rw [← hw4]; exact HDB3.out.set 1 _)
    have HG4 : Hid (Chg (db :: (Value.slice a ds.length c).ownBlock.toList) w w4) := Lib.hid (by
      rw [← hw4]
      have h8 := ((HC1.out.trans HC2.out).mono (by simp) : Chg (db :: (Value.slice a ds.length c).ownBlock.toList) w W2)
      exact (h8.trans (HG3.out.mono (fun x hx => List.mem_cons_of_mem _ hx))).setCell (.inl (by simp)) _)
    have hn2 : ∀ y, (Value.slice a2 (ds.length + 1) c2).ownBlock = some y → y ≠ db := fun y hy => by
      rcases HNB.out y hy with h | h
      · exact HNE.out y h
      · have := HDB.out; omega
    have HO4 : Hid (OwnD w4 B (.slice a2 (ds ++ [Du.mk at_ tk]).length c2) (ds ++ [Du.mk at_ tk])) := Lib.hid (by
      rw [← hw4]
      have h9 := own_keep HOW.out ((Chg.refl [db] w3).setCell (p := ⟨db, 1, none⟩) (.inl (by simp)) (.slice a2 (ds.length + 1) c2)) (fun y hy hm => hn2 y hy (List.mem_singleton.1 hm))
      unfold OwnD
      rw [List.length_append] at h9 ⊢
      exact h9)
    rw [hw4]
    obtain ⟨g, c9, hv9, hB9, hg9⟩ := own_addr HO4.out (by simp)
    simp only [Value.slice.injEq] at hv9
    obtain ⟨rfl, -, rfl⟩ := hv9
    have HUP := Lib.hid (up_any B db g c2 room (ds ++ [Du.mk at_ tk]) ds.length w4 (by rw [List.length_append]; exact HDB4.out) HO4.out (by simp) (fun he => hn2 g rfl he.symm) (by have := HL.out; simp; omega))
    have hgn : g ∉ [db] := fun hm => hn2 g rfl (List.mem_singleton.1 hm)
    have HGN := Lib.hid (hn2 g rfl)
    have HGB : Hid ((Value.slice a ds.length c).ownBlock = some g ∨ w.heap.size + 1 ≤ g) := Lib.hid (HNB.out g rfl)
    have b4 : w4.cell? ⟨db, 1, none⟩ = some (.slice (some ⟨g, 0, none⟩) (ds.length + 1) c2) := HDB4.out.cell rfl
    have k1 : IntKind.i64.wrap ((ds.length : Int) + 1 - 1) = (ds.length : Int) := by rw [IntKind.wrap_i64]; have := HL.out; omega
    have k2 : wrap64 (ds.length : Int) = (ds.length : Int) := w64 _ (by have := HL.out; omega)
    clear hw4 hn2 hgn b1 f1 hB9 hg9
    go_wp2_with (go_at_call 38; refine HUP.out.mono ?_; rintro e w5 ⟨⟨v, rfl⟩, ho5, hc5⟩)
    go_ret
    refine ⟨⟨_, rfl⟩, ⟨some ⟨g, 0, none⟩, c2, ⟨?_, ?_⟩, ?_⟩, HG4.out.into hc5 ?_⟩
    · have h9 := HDB4.out.keep hc5 (fun hm => HGN.out (List.mem_singleton.1 hm).symm)
      rw [HPM.out, upM_len, List.length_append]
      exact h9
    · rw [HPM.out, upM_len]
      unfold OwnD at ho5 ⊢
      rw [upM_len]
      rw [upM_len] at ho5
      exact ho5
    · intro y hy
      simp only [Value.ownBlock, Option.map_some, Option.some.injEq] at hy
      subst hy
      rcases HGB.out with h | h
      · exact .inl h
      · exact .inr (by omega)
    · intro y hy
      rw [List.mem_singleton.1 hy]
      rcases HGB.out with h | h
      · exact .inl (by simp [h])
      · exact .inr (by omega)
  · have r1 : room ≤ (ds.length : Int) := by omega
    have HPM : Hid (pushM room ds ⟨at_, tk⟩ = ds) := Lib.hid (by unfold pushM; rw [if_neg hr])
    clear hr
    go_wp2
    go_ret
    have hc := HC1.out.trans HC2.out
    refine ⟨⟨_, rfl⟩, ⟨a, c, by rw [HPM.out]; exact HA.out.fresh HC2.out, fun y hy => .inl (by rw [HPM.out] at hy; exact hy)⟩, hc.mono (by simp)⟩
end Go.Proofs.YtfkokbeloenfdaaDoor.krn
