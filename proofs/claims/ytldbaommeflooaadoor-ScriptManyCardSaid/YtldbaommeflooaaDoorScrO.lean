/- Scripts: the acts of a text, by the reference: R42.Parse. -/
import Derived.Test.YtldbaommeflooaaDoorScrN
namespace Go.Proofs.YtldbaommeflooaaDoor.scr
open Go Go.RowKit Go.Proofs.YtldbaommeflooaaDoor.kit Go.Proofs.YtldbaommeflooaaDoor.word Go.Shelf
set_option linter.unusedVariables false
set_option linter.unusedSimpArgs false
set_option maxRecDepth 20000
theorem splitL_len (c : UInt8) : ∀ s : List UInt8, (splitL c s).length ≤ s.length + 1 ∧ ∀ x ∈ splitL c s, x.length ≤ s.length
  | [] => by simp [splitL]
  | b :: s => by
    obtain ⟨h1, h2⟩ := splitL_len c s
    unfold splitL
    split
    · refine ⟨by simp; omega, fun x hx => ?_⟩
      rcases List.mem_cons.1 hx with rfl | hx
      · simp
      · have := h2 x hx; simp; omega
    · cases hs : splitL c s with
      | nil => simp
      | cons p ps =>
        rw [hs] at h1 h2
        refine ⟨by simpa using Nat.le_succ_of_le h1, fun x hx => ?_⟩
        rcases List.mem_cons.1 hx with rfl | hx
        · have := h2 p (by simp); simp; omega
        · have := h2 x (by simp [hx]); simp; omega
theorem foldR_snoc {pre : List (List UInt8)} {x : List UInt8} {acc : List Ac} (h : pre.foldlM rstep [] = .ok acc) : (pre ++ [x]).foldlM rstep [] = rstep acc x := by
  rw [List.foldlM_append, h]
  simp [bind, Except.bind]
  cases rstep acc x <;> rfl
theorem foldR_stop {pre ls : List (List UInt8)} {e : Int} (hp : pre <+: ls) (h : pre.foldlM rstep [] = .error e) : ls.foldlM rstep [] = .error e := by
  obtain ⟨r, rfl⟩ := hp
  rw [List.foldlM_append, h]
  rfl
theorem findR_one {s : List UInt8} {a : Ac} (h : findR s = some a) : oneB a = true := ((findR_iff s a).1 h).1
theorem foldR_one : ∀ (pre : List (List UInt8)) (a acc : List Ac), pre.foldlM rstep a = .ok acc → (∀ x ∈ a, oneB x = true) → ∀ x ∈ acc, oneB x = true
  | [], a, acc, h, ha => by cases h; exact ha
  | l :: pre, a, acc, h, ha => by
    rw [List.foldlM_cons] at h
    unfold rstep at h
    cases hf : findR l with
    | none => rw [hf] at h; cases h
    | some y =>
      rw [hf] at h
      refine foldR_one pre (a ++ [y]) acc h ?_
      intro x hx
      rcases List.mem_append.1 hx with hx | hx
      · exact ha x hx
      · simp at hx; subst hx; exact findR_one hf
/-- what the kinds that were tried gave -/
def triedF (ln : List UInt8) (n : Int) (k : Nat) : Option Ac :=
  if 2 ≤ k ∧ (oneB ⟨1, n⟩ && decide (lineL ⟨1, n⟩ = ln)) = true then some ⟨1, n⟩ else if 3 ≤ k ∧ (oneB ⟨2, n⟩ && decide (lineL ⟨2, n⟩ = ln)) = true then some ⟨2, n⟩ else none
theorem tried_step (ln : List UInt8) (n : Int) (k : Nat) (h1 : 1 ≤ k) (h2 : k ≤ 2) : triedF ln n (k + 1) = if ((oneB ⟨k, n⟩ && decide (lineL ⟨k, n⟩ = ln)) && !(triedF ln n k).isSome) = true then some ⟨k, n⟩ else triedF ln n k := by
  have hk : k = 1 ∨ k = 2 := by omega
  rcases hk with rfl | rfl
  · unfold triedF
    cases h : (oneB ⟨1, n⟩ && decide (lineL ⟨1, n⟩ = ln)) <;> simp [h]
  · unfold triedF
    cases h : (oneB ⟨1, n⟩ && decide (lineL ⟨1, n⟩ = ln)) <;> cases h2 : (oneB ⟨2, n⟩ && decide (lineL ⟨2, n⟩ = ln)) <;> simp [h, h2]
theorem tried_end (ln : List UInt8) : triedF ln (digF ((splitL 32 ln).getLast?.getD []) 0 0) 3 = findR ln := by
  unfold triedF findR
  simp
theorem prefix_dropLast {α : Type} {ls : List α} {k : Nat} {x : α} (hk : k < ls.length - 1) (h : ls[k]? = some x) : ls.dropLast.take (k + 1) = ls.dropLast.take k ++ [x] := by
  have h1 : ls.dropLast[k]? = some x := by rw [List.getElem?_dropLast, if_pos hk]; exact h
  rw [List.take_add_one, h1]
  rfl
theorem OwnA.snoc {w : World} {B : Nat} {v : Value} {xs : List Ac} {t n : Int} (h : w.ownsRow B 43 2 v (xs.length + 1) (xs.flatMap Ac.cells ++ [.int .i64 t, .int .i64 n])) : OwnA w B v (xs ++ [⟨t, n⟩]) := by
  unfold OwnA
  rw [List.length_append, List.flatMap_append]
  simpa [Ac.cells] using h
theorem wpList_append_row {P : Program} {w : World} {ops : Array Oper} {rest : List Oper} {o : Oper} {ac : Act} {Q : Exit → Act → World → Prop} (hgd : o.guard = none) (s x : Operand) (t : TypeId)
    (ho : o.op = .call { callee := .builtin .append, args := #[s, x], argTypes := #[t, t] })
    (base : Nat) (e : TypeId) (i : TypeInfo) (z : Value) (size bytes : Nat) (ht : P.underlying t = some (.slice e)) (hi : P.info? e = some i) (hz : i.zero = some z)
    (hsize : i.size = size) (hby : i.bytes = bytes) (hzs : z.cells.size = size) (hsz : 0 < size)
    (v : Value) (n : Nat) (xs : List Value) (hs : ac.eval s = v) (hown : w.ownsRow base e size v n xs)
    (b : Nat) (us : List Value) (hx : ac.eval x = .slice (some ⟨b, 0, none⟩) 1 1) (hl : us.length = 1 * size) (hb : ∀ (j : Nat) u, us[j]? = some u → w.cell? ⟨b, j, none⟩ = some u) (h1 : ∀ u ∈ us, u.oneCell' = true)
    (h63 : n + 1 ≤ maxLen) (hbytes : (n + 1) * bytes ≤ 140737488355328) (hbase : base ≤ w.heap.size)
    (h : ∀ v' w', w'.ownsRow base e size v' (n + 1) (xs ++ us) → w.grownBy w' v.ownBlock → (∀ y, v'.ownBlock = some y → v.ownBlock = some y ∨ y = w.heap.size) → wpList P ops Q rest (ac.put o.dst v') w') : wpList P ops Q (o :: rest) ac w :=
  wpList_plain hgd fun _ hK => wp_append_row s x t ho base e i z size bytes ht hi hz hsize hby hzs hsz v n xs hs hown b us hx hl hb h1 h63 hbytes hbase fun v' w' h2 h3 h4 => hK _ _ (h v' w' h2 h3 h4)
set_option maxHeartbeats 8000000 in
theorem rParse_any (s : List UInt8) (hs : s.length ≤ 3000) (W : World) :
    Calls Tryd.prog 20 #[strV s] W fun e W' => ∃ v, e = .returned (.tuple #[v, .int .i64 (rparse s).2.1, .int .i64 (rparse s).2.2]) ∧ OwnA W' W.heap.size v (rparse s).1 ∧ Chg [] W W' := by
  obtain ⟨R, hR⟩ : ∃ R, rparse s = R := ⟨_, rfl⟩
  have hsp := Split_any s 10 (by omega) W
  obtain ⟨hl1, hl2⟩ := splitL_len 10 s
  have hl3 := List.length_pos_iff.2 (splitL_ne 10 s)
  rw [hR]
  unfold rparse at hR
  obtain ⟨ls, hls⟩ : ∃ ls, splitL 10 s = ls := ⟨_, rfl⟩
  rw [hls] at hR hsp hl1 hl2 hl3
  have HR := Lib.hid hR
  have HSP := Lib.hid hsp
  rw [show ((10 : UInt8).toNat : Int) = 10 from rfl] at HSP
  have HL : Hid (ls.length ≤ 3001 ∧ 0 < ls.length ∧ ∀ x ∈ ls, x.length ≤ 3000) := Lib.hid ⟨by omega, hl3, fun x hx => by have := hl2 x hx; omega⟩
  have HI0 := Lib.hid (info_parts infoAct)
  clear hs hsp hR hl1 hl2 hl3 hls
  have kL : IntKind.i64.wrap ((ls.length : Int) - 1) = (ls.length : Int) - 1 := by rw [IntKind.wrap_i64]; have := HL.out; omega
  go_enter Tryd.func20, Tryd.ntmps20
  go_wp2_with (go_at_call 34; refine HSP.out.mono ?_; rintro e w1 ⟨v, rfl, hown, hcg1⟩; obtain ⟨la, lc, rfl⟩ := own_open hown)
  have hrd := Reads.of_own hown (by decide)
  obtain ⟨b1, o1, hx1, hc1, -⟩ := reads_index (P := Tryd.prog) Tryd.underlying66 szStr hrd
  have HX1 := Lib.hid hx1
  have HC1 := Lib.hid hc1
  have HCG := Lib.hid hcg1
  clear hrd hown hx1 hc1 hcg1 HSP
  go_loopw [6, 7] (fun o i wr => ∃ (k : Nat) (acc : List Ac) (a : Option Addr) (c : Nat), k ≤ ls.length - 1 ∧ i = .int .i64 k ∧ o = .slice a acc.length c ∧ Hid ((ls.dropLast.take k).foldlM rstep [] = .ok acc) ∧ Hid (OwnA wr w1.heap.size (.slice a acc.length c) acc) ∧ Hid (Chg [] w1 wr)) (fun _ i _ => ls.length - (intOf i).toNat)
  case atStart => exact ⟨0, [], none, 0, Nat.zero_le _, rfl, rfl, Lib.hid rfl, Lib.hid (World.ownsRow_nil ..), Lib.hid (Chg.refl _ _)⟩
  case round =>
    obtain ⟨k, acc, a, c, hk, rfl, rfl, HF, HO, HJ⟩ := hrel
    by_cases hlt : k < ls.length - 1
    · have m1 : (k : Int) < (ls.length : Int) - 1 := by omega
      have HLT := Lib.hid hlt
      have g1 := HX1.out k (by omega)
      obtain ⟨ln, hln⟩ : ∃ ln, ls[k]? = some ln := ⟨_, List.getElem?_eq_getElem (by omega)⟩
      have HQ0 := Lib.hid (HC1.out k _ (by rw [List.getElem?_map, hln]; rfl))
      have q0 := HJ.out.keep HQ0.out (by simp)
      rw [Nat.mul_one] at g1
      have HPD := Lib.hid (prefix_dropLast hlt hln)
      have hlnl := HL.out.2.2 ln (List.mem_of_getElem? hln)
      have hsp := fun u => Split_any ln 32 (by omega) u
      obtain ⟨hl1, hl2⟩ := splitL_len 32 ln
      have hl3 := List.length_pos_iff.2 (splitL_ne 32 ln)
      have HTE := Lib.hid (tried_end ln)
      obtain ⟨ws, hws⟩ : ∃ ws, splitL 32 ln = ws := ⟨_, rfl⟩
      rw [hws] at hl1 hl2 hl3 HTE
      simp only [hws] at hsp
      rw [show ((32 : UInt8).toNat : Int) = 32 from rfl] at hsp
      have HSP := Lib.hid hsp
      have HWL : Hid (ws.length ≤ 3001 ∧ 0 < ws.length ∧ ∀ x ∈ ws, x.length ≤ 3000) := Lib.hid ⟨by omega, hl3, fun x hx => by have := hl2 x hx; omega⟩
      have HAL : Hid (acc.length ≤ 3001) := Lib.hid (by
        have h1 := foldR_len _ _ _ HF.out
        rw [List.length_take, List.length_dropLast] at h1
        have := HL.out.1
        simp at h1; omega)
      have HLNL := Lib.hid hlnl
      clear hsp hl1 hl2 hl3 hws hlnl hln hlt hk
      go_wp2_with (go_at_call 34; refine (HSP.out _).mono ?_; rintro e w2 ⟨v2, rfl, hown2, hcg2⟩; obtain ⟨wa, wc, rfl⟩ := own_open hown2)
      obtain ⟨bw, ow, hxw, hcw, hbw⟩ := reads_index (P := Tryd.prog) Tryd.underlying66 szStr (Reads.of_own hown2 (by decide))
      have hbw2 := World.ownsRow.lt hown2 bw (hbw HWL.out.2.1)
      obtain ⟨q, hq⟩ : ∃ q, ws.length = q + 1 := ⟨ws.length - 1, by have := HWL.out.2.1; omega⟩
      obtain ⟨lw, hlw⟩ : ∃ lw, ws.getLast?.getD [] = lw := ⟨_, rfl⟩
      have hqw : ws[q]? = some lw := by
        have h1 : q < ws.length := by omega
        have h2 : ws ≠ [] := by intro h; rw [h] at hq; simp at hq
        rw [List.getLast?_eq_some_getLast h2] at hlw
        rw [List.getElem?_eq_getElem h1, ← hlw, List.getLast_eq_getElem]
        simp [hq]
      have hxm := hxw q (by omega)
      rw [show ((q : Nat) : Int) = (ws.length : Int) - 1 by omega, Nat.mul_one] at hxm
      have HCL2 := Lib.hid (hcw q _ (by rw [List.getElem?_map, hqw]; rfl))
      have kW : IntKind.i64.wrap ((ws.length : Int) - 1) = (ws.length : Int) - 1 := by rw [IntKind.wrap_i64]; have := HWL.out.1; omega
      have hlwl := HWL.out.2.2 lw (List.mem_of_getElem? hqw)
      have hdig := fun u => Digits_any lw (by omega) u
      rw [hlw] at HTE
      obtain ⟨n, hn⟩ : ∃ n, digF lw 0 0 = n := ⟨_, rfl⟩
      rw [hn] at HTE
      simp only [hn] at hdig
      have HDIG := Lib.hid hdig
      have HBW := Lib.hid hbw2
      have HC2 := Lib.hid hcg2
      have HO2I : Hid (OwnA w2 w1.heap.size (.slice a acc.length c) acc) := Lib.hid (OwnA.keep HO.out hcg2 (by simp))
      have HNEI : Hid (∀ y, (Value.slice a acc.length c).ownBlock = some y → y ≠ bw) := Lib.hid (fun y hy => by have := (World.ownsRow.lt HO.out y hy).2; omega)
      have HQ := Lib.hid hq
      clear hxw hcw hbw hbw2 hlw hqw hlwl hdig hn hown2 hcg2 hq
      obtain ⟨wo, hwo⟩ : ∃ wo, wo = wr := ⟨_, rfl⟩
      subst hwo
      go_loopw [6, 8, 10] (fun o fd kd wr => ∃ (kk : Nat) (a2 : Option Addr) (c2 : Nat), 1 ≤ kk ∧ kk ≤ 3 ∧ kd = .int .i64 kk ∧ fd = .bool (triedF ln n kk).isSome ∧ o = .slice a2 (acc ++ (triedF ln n kk).toList).length c2 ∧ Hid (OwnA wr w1.heap.size (.slice a2 (acc ++ (triedF ln n kk).toList).length c2) (acc ++ (triedF ln n kk).toList)) ∧ Hid (Chg [] w1 wr) ∧ Hid (wr.cell? ⟨bw, ow + q, none⟩ = some (strV lw)) ∧ Hid (∀ y, (Value.slice a2 (acc ++ (triedF ln n kk).toList).length c2).ownBlock = some y → y ≠ bw) ∧ Hid (w2.heap.size ≤ wr.heap.size)) (fun _ _ kd _ => 3 - (intOf kd).toNat)
      case atStart =>
        have h0 : triedF ln n 1 = none := by unfold triedF; simp
        refine ⟨1, a, c, by omega, by omega, rfl, ?_, ?_, ?_, Lib.hid (HJ.out.trans HC2.out), HCL2, ?_, Lib.hid (Nat.le_refl _)⟩
        · rw [h0]; rfl
        · rw [h0]; simp
        · rw [h0]; exact Lib.hid (by simpa using HO2I.out)
        · rw [h0]; exact Lib.hid (by simpa using HNEI.out)
      case round =>
        obtain ⟨kk, a2, c2, hk1, hk3, rfl, rfl, rfl, HO2, HJ2, HCL, HNE, HSZ⟩ := hrel
        by_cases hk2 : kk ≤ 2
        · have m2 : (kk : Int) ≤ 2 := by omega
          have HTS := Lib.hid (tried_step ln n kk hk1 hk2)
          have HK := Lib.hid (⟨hk1, hk2⟩ : _ ∧ _)
          have k9 : IntKind.i64.wrap ((kk : Int) + 1) = (kk : Int) + 1 := by rw [IntKind.wrap_i64]; omega
          have q3 := HCL.out
          have q1 : wr.cell? ⟨b1, o1 + k, none⟩ = some (strV ln) := HJ2.out.keep HQ0.out (by simp)
          clear hk1 hk2 hk3
          go_upto_region 12 with (go_at_call 35; refine (HDIG.out _).mono ?_; rintro e w' ⟨rfl, rfl⟩)
          obtain ⟨W0, hW0⟩ : ∃ W0, wr.alloc (.cells #[.int .i64 (kk : Int), .int .i64 n] 43) = W0 := ⟨_, rfl⟩
          rw [hW0]
          have HCW : Hid (Chg [] wr W0) := Lib.hid (by rw [← hW0]; exact (Chg.refl _ _).alloc _)
          have HBA : Hid (Blk W0 wr.heap.size #[.int .i64 (kk : Int), .int .i64 n] 43) := Lib.hid (by rw [← hW0]; exact Blk.new _ _ _)
          have HQ1 := Lib.hid (HCW.out.keep q1 (by simp))
          clear hW0 q1 q3
          have KEEP := Lib.hid (fun (V : World) (h : Chg [] W0 V) => (⟨(HBA.out.keep h (by simp)).cell rfl, (HBA.out.keep h (by simp)).cell rfl, h.keep HQ1.out (by simp), Lib.hid h⟩ : (fun V : World => V.cell? ⟨wr.heap.size, 0, none⟩ = some (.int .i64 (kk : Int)) ∧ V.cell? ⟨wr.heap.size, 1, none⟩ = some (.int .i64 n) ∧ V.cell? ⟨b1, o1 + k, none⟩ = some (strV ln) ∧ Hid (Chg [] W0 V)) V))
          cases hone : oneB ⟨(kk : Int), n⟩
          · have HNX : Hid (triedF ln n (kk + 1) = triedF ln n kk) := Lib.hid (by rw [HTS.out, hone]; rfl)
            have hHeld : (fun V : World => V.cell? ⟨wr.heap.size, 0, none⟩ = some (.int .i64 (kk : Int)) ∧ V.cell? ⟨wr.heap.size, 1, none⟩ = some (.int .i64 n) ∧ V.cell? ⟨b1, o1 + k, none⟩ = some (strV ln) ∧ Hid (Chg [] W0 V)) (World.drew W0) := KEEP.out _ (Chg.refl _ _).drew
            refine wp_region_plan (fun V : World => V.cell? ⟨wr.heap.size, 0, none⟩ = some (.int .i64 (kk : Int)) ∧ V.cell? ⟨wr.heap.size, 1, none⟩ = some (.int .i64 n) ∧ V.cell? ⟨b1, o1 + k, none⟩ = some (strV ln) ∧ Hid (Chg [] W0 V)) [(0, true, some 39), (1, false, some 40), (2, true, some 41), (3, true, some 42), (5, true, some 44), (6, true, some 45), (7, true, some 46), (8, true, some 47), (4, false, some 43), (9, true, some 48), (10, true, some 49), (11, true, some 50), (12, true, some 51), (13, true, some 52), (14, true, some 53)] (by kernel_rfl) (by kernel_rfl) (by kernel_rfl) (by kernel_rfl) (fun d c a v w h => by cases d <;> exact h) hHeld ?_
            repeat (first
              | (refine planWp_read (v := ?_) rfl rfl ?_ ?_ ?_; rotate_left; (focus rfl); (focus (intro u hSw; (try dsimp only at hSw); obtain ⟨h0, h1, h2, -⟩ := hSw; go_simp; (try with_reducible rfl))); (try simp only [Act.put, List.setIfInBounds_toArray, List.set_cons_zero, List.set_cons_succ]))
              | (refine planWp_skip rfl rfl ?_ ?_; (focus rfl); (try simp only [Act.put, List.setIfInBounds_toArray, List.set_cons_zero, List.set_cons_succ]))
              | (refine planWp_leave rfl rfl ?_ hHeld ?_; (focus rfl); (try simp only [Act.put, List.setIfInBounds_toArray, List.set_cons_zero, List.set_cons_succ]))
              | (refine planWp_do rfl rfl ?_ (fun K hK => ?_); (focus rfl); go_simp; (try go_wp2_with (go_at_call 25; refine (rone_any _ _ _).mono ?_; rintro e w' ⟨rfl, hcg⟩; rw [hone])); refine hK.out _ _ ?_ (fun hHeld2 => ?_); (focus exact KEEP.out _ (hHeld.2.2.2.out.trans hcg)); clear hK K hHeld hcg; have hHeld := hHeld2; clear hHeld2; (try simp only [Act.put, List.setIfInBounds_toArray, List.set_cons_zero, List.set_cons_succ])))
            refine planWp_nil ?_
            go_wp2
            have HCN : Hid (Chg [] wr _) := Lib.hid (HCW.out.trans hHeld.2.2.2.out)
            go_roundw
            case rel => exact ⟨kk + 1, a2, c2, by omega, by omega, by go_num, by first | (rw [HNX.out]; done) | (rw [HNX.out]; rfl), by rw [HNX.out]; simp, Lib.hid (by rw [HNX.out]; exact OwnA.keep HO2.out HCN.out (by simp)), Lib.hid (HJ2.out.trans HCN.out), Lib.hid (HCN.out.keep HCL.out (by simp)), Lib.hid (by rw [HNX.out]; exact HNE.out), Lib.hid (Nat.le_trans HSZ.out HCN.out.size)⟩
            case measure => simp [intOf]; omega
          · have HBD := Lib.hid (oneB_bd hone)
            obtain ⟨lx, hlx⟩ : ∃ lx, lineL ⟨(kk : Int), n⟩ = lx := ⟨_, rfl⟩
            have HLX := Lib.hid hlx
            by_cases hse : lx = ln
            · subst hse
              cases hrs : triedF lx n kk with
              | some r =>
                have HNX : Hid (triedF lx n (kk + 1) = some r) := Lib.hid (by rw [HTS.out, hrs]; simp)
                rw [hrs] at HO2 HNE
                clear hlx hrs
                have hHeld : (fun V : World => V.cell? ⟨wr.heap.size, 0, none⟩ = some (.int .i64 (kk : Int)) ∧ V.cell? ⟨wr.heap.size, 1, none⟩ = some (.int .i64 n) ∧ V.cell? ⟨b1, o1 + k, none⟩ = some (strV lx) ∧ Hid (Chg [] W0 V)) (World.drew W0) := KEEP.out _ (Chg.refl _ _).drew
                refine wp_region_plan (fun V : World => V.cell? ⟨wr.heap.size, 0, none⟩ = some (.int .i64 (kk : Int)) ∧ V.cell? ⟨wr.heap.size, 1, none⟩ = some (.int .i64 n) ∧ V.cell? ⟨b1, o1 + k, none⟩ = some (strV lx) ∧ Hid (Chg [] W0 V)) [(0, true, some 39), (1, false, some 40), (2, true, some 41), (3, true, some 42), (5, true, some 44), (6, true, some 45), (7, true, some 46), (8, true, some 47), (4, false, some 43), (9, true, some 48), (10, true, some 49), (11, true, some 50), (12, true, some 51), (13, true, some 52), (14, true, some 53)] (by kernel_rfl) (by kernel_rfl) (by kernel_rfl) (by kernel_rfl) (fun d c a v w h => by cases d <;> exact h) hHeld ?_
                repeat (first
                  | (refine planWp_read (v := ?_) rfl rfl ?_ ?_ ?_; rotate_left; (focus rfl); (focus (intro u hSw; (try dsimp only at hSw); obtain ⟨h0, h1, h2, -⟩ := hSw; go_simp; (try with_reducible rfl))); (try simp only [Act.put, List.setIfInBounds_toArray, List.set_cons_zero, List.set_cons_succ]))
                  | (refine planWp_skip rfl rfl ?_ ?_; (focus rfl); (try simp only [Act.put, List.setIfInBounds_toArray, List.set_cons_zero, List.set_cons_succ]))
                  | (refine planWp_leave rfl rfl ?_ hHeld ?_; (focus rfl); (try simp only [Act.put, List.setIfInBounds_toArray, List.set_cons_zero, List.set_cons_succ]))
                  | (refine planWp_do rfl rfl ?_ (fun K hK => ?_); (focus rfl); go_simp; (try go_wp2_with (first | (go_at_call 25; refine (rone_any _ _ _).mono ?_; rintro e w' ⟨rfl, hcg⟩; rw [hone]) | (go_at_call 30; refine (rLine_any _ _ HBD.out.1 HBD.out.2 _).mono ?_; rintro e w' ⟨rfl, hcg⟩; rw [HLX.out]))); refine hK.out _ _ ?_ (fun hHeld2 => ?_); (focus exact KEEP.out _ (hHeld.2.2.2.out.trans hcg)); clear hK K hHeld hcg; have hHeld := hHeld2; clear hHeld2; (try simp only [Act.put, List.setIfInBounds_toArray, List.set_cons_zero, List.set_cons_succ])))
                refine planWp_nil ?_
                go_wp2
                have HCN : Hid (Chg [] wr _) := Lib.hid (HCW.out.trans hHeld.2.2.2.out)
                go_roundw
                case rel => exact ⟨kk + 1, a2, c2, by omega, by omega, by go_num, by first | (rw [HNX.out]; done) | (rw [HNX.out]; rfl), by rw [HNX.out]; simp, Lib.hid (by rw [HNX.out]; exact OwnA.keep HO2.out HCN.out (by simp)), Lib.hid (HJ2.out.trans HCN.out), Lib.hid (HCN.out.keep HCL.out (by simp)), Lib.hid (by rw [HNX.out]; exact HNE.out), Lib.hid (Nat.le_trans HSZ.out HCN.out.size)⟩
                case measure => simp [intOf]; omega
              | none =>
                have HNX : Hid (triedF lx n (kk + 1) = some ⟨kk, n⟩) := Lib.hid (by rw [HTS.out, hone, hlx, hrs]; simp)
                rw [hrs] at HO2 HNE
                have hz : acc ++ (none : Option Ac).toList = acc := by simp
                rw [hz] at HO2 HNE
                try rw [hz]
                clear hlx hrs hz
                have hHeld : (fun V : World => V.cell? ⟨wr.heap.size, 0, none⟩ = some (.int .i64 (kk : Int)) ∧ V.cell? ⟨wr.heap.size, 1, none⟩ = some (.int .i64 n) ∧ V.cell? ⟨b1, o1 + k, none⟩ = some (strV lx) ∧ Hid (Chg [] W0 V)) (World.drew W0) := KEEP.out _ (Chg.refl _ _).drew
                refine wp_region_plan (fun V : World => V.cell? ⟨wr.heap.size, 0, none⟩ = some (.int .i64 (kk : Int)) ∧ V.cell? ⟨wr.heap.size, 1, none⟩ = some (.int .i64 n) ∧ V.cell? ⟨b1, o1 + k, none⟩ = some (strV lx) ∧ Hid (Chg [] W0 V)) [(0, true, some 39), (1, false, some 40), (2, true, some 41), (3, true, some 42), (5, true, some 44), (6, true, some 45), (7, true, some 46), (8, true, some 47), (4, false, some 43), (9, true, some 48), (10, true, some 49), (11, true, some 50), (12, true, some 51), (13, true, some 52), (14, true, some 53)] (by kernel_rfl) (by kernel_rfl) (by kernel_rfl) (by kernel_rfl) (fun d c a v w h => by cases d <;> exact h) hHeld ?_
                repeat (first
                  | (refine planWp_read (v := ?_) rfl rfl ?_ ?_ ?_; rotate_left; (focus rfl); (focus (intro u hSw; (try dsimp only at hSw); obtain ⟨h0, h1, h2, -⟩ := hSw; go_simp; (try with_reducible rfl))); (try simp only [Act.put, List.setIfInBounds_toArray, List.set_cons_zero, List.set_cons_succ]))
                  | (refine planWp_skip rfl rfl ?_ ?_; (focus rfl); (try simp only [Act.put, List.setIfInBounds_toArray, List.set_cons_zero, List.set_cons_succ]))
                  | (refine planWp_leave rfl rfl ?_ hHeld ?_; (focus rfl); (try simp only [Act.put, List.setIfInBounds_toArray, List.set_cons_zero, List.set_cons_succ]))
                  | (refine planWp_do rfl rfl ?_ (fun K hK => ?_); (focus rfl); go_simp; (try go_wp2_with (first | (go_at_call 25; refine (rone_any _ _ _).mono ?_; rintro e w' ⟨rfl, hcg⟩; rw [hone]) | (go_at_call 30; refine (rLine_any _ _ HBD.out.1 HBD.out.2 _).mono ?_; rintro e w' ⟨rfl, hcg⟩; rw [HLX.out]))); refine hK.out _ _ ?_ (fun hHeld2 => ?_); (focus exact KEEP.out _ (hHeld.2.2.2.out.trans hcg)); clear hK K hHeld hcg; have hHeld := hHeld2; clear hHeld2; (try simp only [Act.put, List.setIfInBounds_toArray, List.set_cons_zero, List.set_cons_succ])))
                refine planWp_nil ?_
                obtain ⟨h0, h1, -, hcx⟩ := hHeld
                have HCX : Hid (Chg [] wr w') := Lib.hid (HCW.out.trans hcx.out)
                have HOA : Hid ((w'.alloc (.cells #[.int .i64 (kk : Int), .int .i64 n] 43)).ownsRow w1.heap.size 43 2 (.slice a2 acc.length c2) acc.length (acc.flatMap Ac.cells)) := Lib.hid (own_keep HO2.out (HCX.out.alloc _) (by simp))
                have HBN := Lib.hid (Blk.new w' #[.int .i64 (kk : Int), .int .i64 n] 43)
                obtain ⟨i0, hi, hz0, hz1, hz2⟩ := HI0.out
                clear hcx
                go_wp2_with (first | (at_builtin; refine wpList_append_row (o := ⟨some 57, _, _, _, _, _⟩) rfl (.tmp 54) (.tmp 56) 22 rfl w1.heap.size 43 i0 (.agg #[.int .i64 0, .int .i64 0]) 2 16 Tryd.underlying22 hi hz0 hz1 hz2 rfl (by decide) _ _ _ rfl HOA.out w'.heap.size [.int .i64 (kk : Int), .int .i64 n] rfl rfl (fun j u hu => HBN.out.cell (by rw [← Array.getElem?_toList]; exact hu)) ?c2 ?c3 ?c4 ?c5 ?_))
                case c2 => simp [Value.oneCell']
                case c3 => have := HAL.out; unfold maxLen; omega
                case c4 => have := HAL.out; omega
                case c5 => have := HJ2.out.size; have := HCX.out.size; simp; omega
                intro v3 w3 hown3 hgrow hblk
                have HOW := Lib.hid (OwnA.snoc hown3)
                have HG3 : Hid (Chg ((Value.slice a2 acc.length c2).ownBlock.toList) wr w3) := Lib.hid (((HCX.out.mono (by simp)).alloc _).grown hgrow (fun q hq => .inl (Option.mem_toList.2 hq)))
                have HGR : Hid (Chg [] w1 w3) := Lib.hid (HJ2.out.into HG3.out (fun y hy => .inr (World.ownsRow.lt HO2.out y (Option.mem_toList.1 hy)).1))
                obtain ⟨a3, c3, rfl⟩ := own_open hown3
                have HNB : Hid (∀ y, (Value.slice a3 (acc.length + 1) c3).ownBlock = some y → y ≠ bw) := Lib.hid (fun y hy => by
                  rcases hblk y hy with h | h
                  · exact HNE.out y h
                  · intro he
                    have e2 := World.size_alloc w' (.cells #[.int .i64 (kk : Int), .int .i64 n] 43)
                    have := HBW.out.2; have := HSZ.out; have := HCX.out.size
                    omega)
                clear hown3 hgrow hblk
                go_wp2
                go_roundw
                case rel => exact ⟨kk + 1, a3, c3, by omega, by omega, by go_num, by rw [HNX.out]; rfl, by rw [HNX.out]; simp, Lib.hid (by rw [HNX.out]; simpa using HOW.out), HGR, Lib.hid (HG3.out.keep HCL.out (fun hm => HNE.out _ (Option.mem_toList.1 hm) rfl)), Lib.hid (by rw [HNX.out]; simpa using HNB.out), Lib.hid (Nat.le_trans HSZ.out HG3.out.size)⟩
                case measure => simp [intOf]; omega
            · have hbq : (lx == ln) = false := by simpa using hse
              have HNX : Hid (triedF ln n (kk + 1) = triedF ln n kk) := Lib.hid (by rw [HTS.out, hone, hlx]; simp [hse])
              clear hlx hse
              have hHeld : (fun V : World => V.cell? ⟨wr.heap.size, 0, none⟩ = some (.int .i64 (kk : Int)) ∧ V.cell? ⟨wr.heap.size, 1, none⟩ = some (.int .i64 n) ∧ V.cell? ⟨b1, o1 + k, none⟩ = some (strV ln) ∧ Hid (Chg [] W0 V)) (World.drew W0) := KEEP.out _ (Chg.refl _ _).drew
              refine wp_region_plan (fun V : World => V.cell? ⟨wr.heap.size, 0, none⟩ = some (.int .i64 (kk : Int)) ∧ V.cell? ⟨wr.heap.size, 1, none⟩ = some (.int .i64 n) ∧ V.cell? ⟨b1, o1 + k, none⟩ = some (strV ln) ∧ Hid (Chg [] W0 V)) [(0, true, some 39), (1, false, some 40), (2, true, some 41), (3, true, some 42), (5, true, some 44), (6, true, some 45), (7, true, some 46), (8, true, some 47), (4, false, some 43), (9, true, some 48), (10, true, some 49), (11, true, some 50), (12, true, some 51), (13, true, some 52), (14, true, some 53)] (by kernel_rfl) (by kernel_rfl) (by kernel_rfl) (by kernel_rfl) (fun d c a v w h => by cases d <;> exact h) hHeld ?_
              repeat (first
                | (refine planWp_read (v := ?_) rfl rfl ?_ ?_ ?_; rotate_left; (focus rfl); (focus (intro u hSw; (try dsimp only at hSw); obtain ⟨h0, h1, h2, -⟩ := hSw; go_simp; (try with_reducible rfl))); (try simp only [Act.put, List.setIfInBounds_toArray, List.set_cons_zero, List.set_cons_succ]))
                | (refine planWp_skip rfl rfl ?_ ?_; (focus rfl); (try simp only [Act.put, List.setIfInBounds_toArray, List.set_cons_zero, List.set_cons_succ]))
                | (refine planWp_leave rfl rfl ?_ hHeld ?_; (focus rfl); (try simp only [Act.put, List.setIfInBounds_toArray, List.set_cons_zero, List.set_cons_succ]))
                | (refine planWp_do rfl rfl ?_ (fun K hK => ?_); (focus rfl); go_simp; (try go_wp2_with (first | (go_at_call 25; refine (rone_any _ _ _).mono ?_; rintro e w' ⟨rfl, hcg⟩; rw [hone]) | (go_at_call 30; refine (rLine_any _ _ HBD.out.1 HBD.out.2 _).mono ?_; rintro e w' ⟨rfl, hcg⟩; rw [HLX.out]))); refine hK.out _ _ ?_ (fun hHeld2 => ?_); (focus exact KEEP.out _ (hHeld.2.2.2.out.trans hcg)); clear hK K hHeld hcg; have hHeld := hHeld2; clear hHeld2; (try simp only [Act.put, List.setIfInBounds_toArray, List.set_cons_zero, List.set_cons_succ])))
              refine planWp_nil ?_
              go_wp2
              have HCN : Hid (Chg [] wr _) := Lib.hid (HCW.out.trans hHeld.2.2.2.out)
              go_roundw
              case rel => exact ⟨kk + 1, a2, c2, by omega, by omega, by go_num, by first | (rw [HNX.out]; done) | (rw [HNX.out]; rfl), by rw [HNX.out]; simp, Lib.hid (by rw [HNX.out]; exact OwnA.keep HO2.out HCN.out (by simp)), Lib.hid (HJ2.out.trans HCN.out), Lib.hid (HCN.out.keep HCL.out (by simp)), Lib.hid (by rw [HNX.out]; exact HNE.out), Lib.hid (Nat.le_trans HSZ.out HCN.out.size)⟩
              case measure => simp [intOf]; omega
        · obtain rfl : kk = 3 := by omega
          rw [HTE.out] at HO2
          rw [HTE.out]
          clear hk1 hk3 hk2
          have hltk := HLT.out
          have k10 : IntKind.i64.wrap ((k : Int) + 1) = (k : Int) + 1 := by rw [IntKind.wrap_i64]; have := HL.out.1; omega
          have HAK : Hid (acc.length = k) := Lib.hid (by
            have h1 := foldR_len _ _ _ HF.out
            rw [List.length_take, List.length_dropLast] at h1
            simp at h1; omega)
          have HF1 := Lib.hid (foldR_snoc (x := ln) HF.out)
          rw [← HPD.out] at HF1
          cases hfr : findR ln with
          | none =>
            have HFE : Hid (ls.dropLast.foldlM rstep [] = .error ((k : Int) + 1)) := Lib.hid (foldR_stop (List.take_prefix (k + 1) _) (by rw [HF1.out]; unfold rstep; rw [hfr, HAK.out]))
            clear hltk
            go_wp2
            refine bodyPost_ret (results_tmp3 rfl _ _ _) rfl ?_
            have hres := HR.out
            rw [HFE.out] at hres
            subst hres
            exact ⟨.slice none 0 0, rfl, World.ownsRow_nil .., HCG.out.trans HJ2.out⟩
          | some r =>
            rw [hfr] at HO2
            have HF2 : Hid ((ls.dropLast.take (k + 1)).foldlM rstep [] = .ok (acc ++ [r])) := Lib.hid (by rw [HF1.out]; unfold rstep; rw [hfr])
            go_wp2
            go_roundw
            case rel => exact ⟨k + 1, acc ++ [r], a2, c2, by omega, by go_num, by simp, HF2, Lib.hid (by simpa using HO2.out), HJ2⟩
            case measure => simp [intOf]; omega
    · obtain rfl : k = ls.length - 1 := by omega
      have m1 : ¬ ((ls.length - 1 : Nat) : Int) < (ls.length : Int) - 1 := by omega
      have hF := HF.out
      rw [List.take_of_length_le (by rw [List.length_dropLast]; omega)] at hF
      obtain ⟨lst, hlst⟩ : ∃ lst, ls.getLast?.getD [] = lst := ⟨_, rfl⟩
      have hll : ls[ls.length - 1]? = some lst := by
        have h2 : ls ≠ [] := by intro h; have := HL.out.2.1; rw [h] at this; simp at this
        rw [List.getLast?_eq_some_getLast h2] at hlst
        rw [List.getElem?_eq_getElem (by have := HL.out.2.1; omega), ← hlst, List.getLast_eq_getElem]
        rfl
      have g1 := HX1.out (ls.length - 1) (by have := HL.out.2.1; omega)
      rw [show ((ls.length - 1 : Nat) : Int) = (ls.length : Int) - 1 by have := HL.out.2.1; omega, Nat.mul_one] at g1
      rw [show ((ls.length - 1 : Nat) : Int) = (ls.length : Int) - 1 by have := HL.out.2.1; omega] at m1
      rw [show ((ls.length - 1 : Nat) : Int) = (ls.length : Int) - 1 by have := HL.out.2.1; omega]
      have q0 := HJ.out.keep (HC1.out (ls.length - 1) _ (by rw [List.getElem?_map, hll]; rfl)) (by simp)
      obtain ⟨p1, hp1⟩ : ∃ p1, o1 + (ls.length - 1) = p1 := ⟨_, rfl⟩
      rw [hp1] at g1 q0
      have hres := HR.out
      rw [hF] at hres
      simp only [hlst] at hres
      have HONE := Lib.hid (fun x hx => oneB_ok (foldR_one _ _ _ hF (by simp) x hx))
      have HRES := Lib.hid hres
      clear hF hlst hll hp1 hres hk hlt
      cases lst with
      | cons x r =>
        go_wp2
        refine bodyPost_ret (results_tmp3 rfl _ _ _) rfl ?_
        have hres := HRES.out
        rw [if_pos (by simp)] at hres
        subst hres
        exact ⟨.slice none 0 0, rfl, World.ownsRow_nil .., HCG.out.trans HJ.out⟩
      | nil =>
        have hres := HRES.out
        rw [if_neg (by simp)] at hres
        have HRR := Lib.hid (rRight_any a c acc wr ⟨Reads.of_own HO.out (by decide), HONE.out⟩)
        cases hra : rightA acc
        · rw [hra] at hres HRR
          have HRES2 := Lib.hid hres
          clear hres hra
          go_wp2_with (go_at_call 12; refine HRR.out.mono ?_; rintro e w9 ⟨rfl, hcg⟩)
          refine bodyPost_ret (results_tmp3 rfl _ _ _) rfl ?_
          have hres := HRES2.out
          rw [if_neg (by decide)] at hres
          subst hres
          exact ⟨.slice none 0 0, rfl, World.ownsRow_nil .., (HCG.out.trans HJ.out).trans hcg⟩
        · rw [hra] at hres HRR
          have HRES2 := Lib.hid hres
          clear hres hra
          go_wp2_with (go_at_call 12; refine HRR.out.mono ?_; rintro e w9 ⟨rfl, hcg⟩)
          refine bodyPost_ret (results_tmp3 rfl _ _ _) rfl ?_
          have hres := HRES2.out
          simp only [reduceIte] at hres
          subst hres
          exact ⟨_, rfl, OwnA.mono (OwnA.keep HO.out hcg (by simp)) HCG.out.size, (HCG.out.trans HJ.out).trans hcg⟩
end Go.Proofs.YtldbaommeflooaaDoor.scr
