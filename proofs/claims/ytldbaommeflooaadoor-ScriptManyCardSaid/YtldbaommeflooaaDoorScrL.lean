/- Scripts: what is asked for, by the reference: R42.Asks. -/
import Derived.Test.YtldbaommeflooaaDoorScrK
import Derived.Test.YtldbaommeflooaaDoorPlans
namespace Go.Proofs.YtldbaommeflooaaDoor.scr
open Go Go.RowKit Go.Proofs.YtldbaommeflooaaDoor.kit Go.Proofs.YtldbaommeflooaaDoor.word Go.Shelf
set_option linter.unusedVariables false
set_option linter.unusedSimpArgs false
set_option maxRecDepth 20000
/-- append of a struct that was just laid: what comes, and where it lies -/
theorem wp_append_row {P : Program} {w : World} {o : Oper} {ac : Act} {K : Act → World → Prop} {Q : Exit → Act → World → Prop} (s x : Operand) (t : TypeId)
    (ho : o.op = .call { callee := .builtin .append, args := #[s, x], argTypes := #[t, t] })
    (base : Nat) (e : TypeId) (i : TypeInfo) (z : Value) (size bytes : Nat) (ht : P.underlying t = some (.slice e)) (hi : P.info? e = some i) (hz : i.zero = some z)
    (hsize : i.size = size) (hby : i.bytes = bytes) (hzs : z.cells.size = size) (hsz : 0 < size)
    (v : Value) (n : Nat) (xs : List Value) (hs : ac.eval s = v) (hown : w.ownsRow base e size v n xs)
    (b : Nat) (us : List Value) (hx : ac.eval x = .slice (some ⟨b, 0, none⟩) 1 1) (hl : us.length = 1 * size) (hb : ∀ (j : Nat) u, us[j]? = some u → w.cell? ⟨b, j, none⟩ = some u) (h1 : ∀ u ∈ us, u.oneCell' = true)
    (h63 : n + 1 ≤ maxLen) (hbytes : (n + 1) * bytes ≤ 140737488355328) (hbase : base ≤ w.heap.size)
    (h : ∀ v' w', w'.ownsRow base e size v' (n + 1) (xs ++ us) → w.grownBy w' v.ownBlock → (∀ y, v'.ownBlock = some y → v.ownBlock = some y ∨ y = w.heap.size) → K (ac.put o.dst v') w') : o.wp P ac w K Q := by
  have hc : ∀ (j : Nat) y, us[j]? = some y → w.cell? ((⟨b, 0, none⟩ : Addr).add j) = some y := by
    intro j y hy
    rw [add_plain, Nat.zero_add]
    exact hb j y hy
  obtain ⟨v', w', hr, h2, h3, _⟩ := run_append_own (P := P) w base t o.type e i z size bytes ht hi hz hsize hby hzs hsz v n xs hown ⟨b, 0, none⟩ 1 1 us hl hc h1 h63 hbytes hbase
  have h4 := append_blk (P := P) w base t o.type e i z size bytes ht hi hz hsize hby hzs hsz v n xs hown ⟨b, 0, none⟩ 1 1 us hl (by decide) hc h1 h63 hbytes v' w' hr
  unfold Oper.wp execOp
  simp only [ho, resolve, invoke, builtin, Sem.run_bind, Sem.run_pure, Result.andThen_ok, List.map_toArray, List.map_cons, List.map_nil, hs, hx, hr]
  exact h v' w' h2 h3 h4
theorem walkL_snoc (a : Ac) : ∀ (l : List Ac) (t : Int), walkL (l ++ [a]) t = walkL l t ++ [(l.foldl tickS t, a)]
  | [], t => rfl
  | x :: l, t => by
    rw [List.cons_append, walkL, walkL_snoc a l]
    rfl
theorem asksL_snoc {l : List Ac} {j : Nat} {k n : Int} (h : l[j]? = some ⟨k, n⟩) : asksL (l.take (j + 1)) = if k = 2 then asksL (l.take j) ++ [⟨ticks (l.take j), n⟩] else asksL (l.take j) := by
  have hj := List.getElem?_eq_some_iff.1 h
  rw [List.take_succ_eq_append_getElem hj.1, hj.2]
  unfold asksL
  rw [walkL_snoc, List.filterMap_append]
  by_cases c : k = 2
  · rw [if_pos c]; simp [dueOf, c, ticks]
  · rw [if_neg c]; simp [dueOf, c]
theorem flatMap_takeA : ∀ (l : List Ac) (j : Nat), (l.flatMap Ac.cells).take (j * 2) = (l.take j).flatMap Ac.cells
  | [], j => by simp
  | a :: l, 0 => by simp
  | a :: l, j + 1 => by
    rw [show (j + 1) * 2 = j * 2 + 1 + 1 by omega, List.flatMap_cons, List.take_succ_cons, List.flatMap_cons]
    show ([_, _] ++ l.flatMap Ac.cells).take (j * 2 + 1 + 1) = [_, _] ++ _
    rw [List.cons_append, List.cons_append, List.take_succ_cons, List.take_succ_cons, List.nil_append, flatMap_takeA l j]
    rfl
theorem OwnD.snoc {w : World} {B : Nat} {v : Value} {xs : List Du} {t n : Int} (h : w.ownsRow B 28 2 v (xs.length + 1) (xs.flatMap Du.cells ++ [.int .i64 t, .int .i64 n])) : OwnD w B v (xs ++ [⟨t, n⟩]) := by
  unfold OwnD
  rw [List.length_append, List.flatMap_append]
  simpa [Du.cells] using h
set_option maxHeartbeats 4000000 in
theorem rAsks_any (va : Option Addr) (lc : Nat) (l : List Ac) (W : World) (hr : ReadsA W (.slice va l.length lc) l) (hlen : l.length ≤ 65536) :
    Calls Tryd.prog 8 #[.slice va l.length lc] W fun e W' => ∃ v, e = .returned v ∧ OwnD W' W.heap.size v (asksL l) ∧ Chg [] W W' := by
  obtain ⟨b1, o1, hx1, hc1, -⟩ := reads_index (P := Tryd.prog) Tryd.underlying22 szAct hr.1
  have HX1 := Lib.hid hx1
  have HC1 := Lib.hid hc1
  have HLEN := Lib.hid hlen
  have HRA := Lib.hid hr
  have HI0 := Lib.hid (info_parts infoDue)
  clear hx1 hc1 hlen hr
  go_enter Tryd.func8, Tryd.ntmps8
  go_wp2
  go_loopw [3, 8] (fun o i wr => ∃ (j : Nat) (a : Option Addr) (c : Nat), j ≤ l.length ∧ i = .int .i64 j ∧ o = .slice a (asksL (l.take j)).length c ∧ Hid (OwnD wr W.heap.size (.slice a (asksL (l.take j)).length c) (asksL (l.take j))) ∧ Hid (Chg [] W wr)) (fun _ i _ => l.length - (intOf i).toNat)
  case atStart => exact ⟨0, none, 0, Nat.zero_le _, rfl, rfl, Lib.hid (World.ownsRow_nil ..), Lib.hid (Chg.refl _ _)⟩
  case round =>
    obtain ⟨j, a, c, hj, rfl, rfl, HO, HJ⟩ := hrel
    by_cases hlt : j < l.length
    · have HLT := Lib.hid hlt
      have g1 := HX1.out j hlt
      obtain ⟨⟨k, n⟩, htk⟩ : ∃ t, l[j]? = some t := ⟨_, List.getElem?_eq_getElem hlt⟩
      have q0 := HJ.out.keep (HC1.out (j * 2 + 0) _ (by rw [flatMap_get Ac.cells 2 (fun _ => rfl) l j 0 (by decide) _ htk]; rfl)) (by simp)
      have q1 := HJ.out.keep (HC1.out (j * 2 + 1) _ (by rw [flatMap_get Ac.cells 2 (fun _ => rfl) l j 1 (by decide) _ htk]; rfl)) (by simp)
      rw [Nat.add_zero] at q0
      rw [← Nat.add_assoc] at q1
      have HSN := Lib.hid (asksL_snoc htk)
      have hll := asksL_len (l.take j)
      rw [List.length_take] at hll
      have k8 : IntKind.i64.wrap ((j : Int) + 1) = (j : Int) + 1 := by rw [IntKind.wrap_i64]; have := HLEN.out; omega
      obtain ⟨vs, es, rs, -⟩ := slice_high (P := Tryd.prog) Tryd.underlying22 szAct HRA.out.1 j (by omega)
      obtain ⟨sa, sc, rfl, -⟩ := reads_slice rs
      rw [flatMap_takeA] at rs
      have htl : (l.take j).length = j := by rw [List.length_take]; omega
      have hrs : ReadsA W (.slice sa (l.take j).length sc) (l.take j) := ⟨by rw [htl]; exact rs, fun x hx => HRA.out.2 x (List.mem_of_mem_take hx)⟩
      have HTK := fun u cg => Lib.hid (rTicks_any sa sc (l.take j) u (hrs.fresh cg))
      rw [htl] at HTK
      obtain ⟨xs, hxs⟩ : ∃ xs, asksL (l.take j) = xs := ⟨_, rfl⟩
      obtain ⟨tk, htk2⟩ : ∃ tk, ticks (l.take j) = tk := ⟨_, rfl⟩
      rw [hxs] at HO HSN hll
      rw [htk2] at HSN HTK
      rw [hxs]
      have HLL : Hid (xs.length ≤ 65536) := Lib.hid (by have := HLEN.out; omega)
      have HTK2 := Lib.hid HTK
      clear htk hj hlt hll hxs htl rs hrs htk2 HTK
      by_cases c1 : k = 2
      · subst c1
        rw [if_pos rfl] at HSN
        go_upto_region 6 with fail
        obtain ⟨W0, hW0⟩ : ∃ W0, wr.alloc (.cells #[.int .i64 2, .int .i64 n] 43) = W0 := ⟨_, rfl⟩
        rw [hW0]
        have HCW : Hid (Chg [] wr W0) := Lib.hid (by rw [← hW0]; exact (Chg.refl _ _).alloc _)
        have HBA : Hid (Blk W0 wr.heap.size #[.int .i64 2, .int .i64 n] 43) := Lib.hid (by rw [← hW0]; exact Blk.new _ _ _)
        clear hW0
        have hHeld : (fun V : World => Hid (Blk V wr.heap.size #[.int .i64 2, .int .i64 n] 43) ∧ Hid (Chg [] W V)) (World.drew W0) := ⟨Lib.hid HBA.out.drew, Lib.hid (HJ.out.trans HCW.out).drew⟩
        refine wp_region_plan (fun V : World => Hid (Blk V wr.heap.size #[.int .i64 2, .int .i64 n] 43) ∧ Hid (Chg [] W V)) [(0, true, some 16), (1, true, some 17), (2, true, some 18), (3, true, some 19), (5, true, some 21), (6, true, some 22), (4, false, some 20), (7, true, some 23), (8, false, some 24), (9, false, some 25), (10, true, some 3)] (by kernel_rfl) (by kernel_rfl) (by kernel_rfl) (by kernel_rfl) (fun d c a v w h => by cases d <;> exact h) hHeld ?_
        repeat (first
          | (refine planWp_read (v := ?_) rfl rfl ?_ ?_ ?_; rotate_left; (focus rfl); (focus (intro u hSw; (try dsimp only at hSw); have hcell : u.cell? ⟨wr.heap.size, 1, none⟩ = some (.int .i64 n) := hSw.1.out.cell rfl; go_simp; (try with_reducible rfl))); (try simp only [Act.put, List.setIfInBounds_toArray, List.set_cons_zero, List.set_cons_succ])))
        refine planWp_do rfl rfl ?_ (fun K hK => ?_)
        focus rfl
        go_simp
        go_wp2_with (go_at_call 10; refine (HTK2.out _ hHeld.2.out).out.mono ?_; rintro e wt ⟨rfl, hct⟩)
        refine hK.out _ _ ?_ (fun hHeld2 => ?_)
        focus exact ⟨Lib.hid (hHeld.1.out.keep hct (by simp)), Lib.hid (hHeld.2.out.trans hct)⟩
        have HCT : Hid (Chg [] wr wt) := Lib.hid (HCW.out.drew.trans hct)
        clear hK K hHeld hct
        try simp only [Act.put, List.setIfInBounds_toArray, List.set_cons_zero, List.set_cons_succ]
        refine planWp_read (v := .agg #[.int .i64 tk, .int .i64 n]) rfl rfl ?_ ?_ ?_
        focus rfl
        focus (intro u hSw; go_simp; (try with_reducible rfl))
        try simp only [Act.put, List.setIfInBounds_toArray, List.set_cons_zero, List.set_cons_succ]
        refine planWp_do rfl rfl ?_ (fun K hK => ?_)
        focus rfl
        go_simp
        go_wp2_with fail
        refine hK.out _ _ ?_ (fun hHeld3 => ?_)
        focus exact ⟨Lib.hid (hHeld2.1.out.alloc _), Lib.hid (hHeld2.2.out.alloc _)⟩
        clear hK K hHeld2
        have HOA : Hid (OwnD (wt.alloc (.cells #[.int .i64 tk, .int .i64 n] 28)) W.heap.size (.slice a xs.length c) xs) := Lib.hid (own_keep HO.out (HCT.out.alloc _) (by simp))
        have HBN := Lib.hid (Blk.new wt #[.int .i64 tk, .int .i64 n] 28)
        obtain ⟨i0, hi, hz0, hz1, hz2⟩ := HI0.out
        try simp only [Act.put, List.setIfInBounds_toArray, List.set_cons_zero, List.set_cons_succ]
        refine planWp_do rfl rfl ?_ (fun K hK => ?_)
        focus rfl
        refine wp_append_row (o := ⟨some 25, _, _, _, _, _⟩) (.tmp 16) (.tmp 24) 24 rfl W.heap.size 28 i0 (.agg #[.int .i64 0, .int .i64 0]) 2 16 Tryd.underlying24 hi hz0 hz1 hz2 rfl (by decide) (.slice a xs.length c) xs.length (xs.flatMap Du.cells) rfl HOA.out wt.heap.size [.int .i64 tk, .int .i64 n] rfl rfl (fun j u hu => HBN.out.cell (by rw [← Array.getElem?_toList]; exact hu)) (by simp [Value.oneCell']) (by have := HLL.out; unfold maxLen; omega) (by have := HLL.out; omega) hHeld3.2.out.size ?_
        intro v' w2 hown' hgrow _
        have HOW := Lib.hid (OwnD.snoc hown')
        have HGR : Hid (Chg [] W w2) := Lib.hid (hHeld3.2.out.grown hgrow (fun q hq => .inr (World.ownsRow.lt HOA.out q hq).1))
        obtain ⟨a2, c2, rfl⟩ := own_open hown'
        have HB2 : Hid (Blk w2 wr.heap.size #[.int .i64 2, .int .i64 n] 43) := Lib.hid (hHeld3.1.out.keep (((Chg.refl ((Value.slice a xs.length c).ownBlock.toList) _)).grown hgrow (fun q hq => .inl (Option.mem_toList.2 hq))) (fun hm => by have := (World.ownsRow.lt HO.out _ (Option.mem_toList.1 hm)).2; omega))
        refine hK.out _ _ ?_ (fun hHeld4 => ?_)
        focus exact ⟨HB2, HGR⟩
        clear hown' hgrow hK K hHeld3
        try simp only [Act.put, List.setIfInBounds_toArray, List.set_cons_zero, List.set_cons_succ]
        refine planWp_read (v := .slice a2 (xs.length + 1) c2) rfl rfl ?_ ?_ ?_
        focus rfl
        focus (intro u hSw; go_simp; (try with_reducible rfl))
        try simp only [Act.put, List.setIfInBounds_toArray, List.set_cons_zero, List.set_cons_succ]
        refine planWp_nil ?_
        go_wp2
        have hltj := HLT.out
        go_roundw
        case rel => exact ⟨j + 1, a2, c2, by omega, by go_num, by rw [HSN.out]; simp, Lib.hid (by rw [HSN.out]; simpa using HOW.out), HGR⟩
        case measure => simp [intOf]; omega
      · rw [if_neg c1] at HSN
        have c1' : (k == 2) = false := by simpa using c1
        clear c1
        go_wp2
        have hltj := HLT.out
        go_roundw
        case rel => exact ⟨j + 1, a, c, by omega, by go_num, by rw [HSN.out], Lib.hid (by rw [HSN.out]; exact own_keep HO.out ((Chg.refl [] _).alloc _) (by simp)), Lib.hid (HJ.out.alloc _)⟩
        case measure => simp [intOf]; omega
    · obtain rfl : l.length = j := by omega
      clear hlt hj
      rw [List.take_length] at HO
      rw [List.take_length]
      go_wp2
      go_ret
      exact ⟨_, rfl, HO.out, HJ.out⟩
end Go.Proofs.YtldbaommeflooaaDoor.scr
