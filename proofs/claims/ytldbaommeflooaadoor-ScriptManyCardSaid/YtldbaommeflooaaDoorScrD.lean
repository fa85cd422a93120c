/- Scripts: the act of a line: script.read (printed by scr2.py). -/
import Derived.Test.YtldbaommeflooaaDoorScrC
import Derived.Lib.ConvBytes
import Derived.Test.YtldbaommeflooaaDoorBlk
import Derived.Laws.Rows
namespace Go.Proofs.YtldbaommeflooaaDoor.scr
open Go Go.RowKit Go.Proofs.YtldbaommeflooaaDoor.kit Go.Proofs.YtldbaommeflooaaDoor.word Go.Shelf
set_option linter.unusedVariables false
set_option linter.unusedSimpArgs false
set_option maxRecDepth 20000
theorem Chg.bytes (w : World) (e : TypeId) (s : ByteArray) : Chg [] w (Lib.bytesWorld w e s) :=
  ⟨rfl, rfl, rfl, by rw [Lib.bytesWorld_size]; omega, fun k hk _ => Lib.bytesWorld_at_old w e s k hk⟩
def readS (o : Option Int) (c : UInt8) : Option Int := o.bind fun n => if c.toNat < 48 ∨ 57 < c.toNat ∨ 65536 < n then none else some (10 * n + ((c.toNat : Int) - 48))
def readN (l : List UInt8) : Option Int := l.foldl readS (some 0)
theorem foldl_none (l : List UInt8) : l.foldl readS none = none := by
  induction l with
  | nil => rfl
  | cons c l ih => exact ih
theorem readN_none {l : List UInt8} {j : Nat} (h : (l.take j).foldl readS (some 0) = none) : readN l = none := by
  unfold readN
  rw [← List.take_append_drop j l, List.foldl_append, h, foldl_none]
theorem readS_bd {o : Option Int} {c : UInt8} {n : Int} (h : readS o c = some n) (ho : ∀ m, o = some m → 0 ≤ m) : 0 ≤ n ∧ n ≤ 655369 := by
  cases o with
  | none => simp [readS] at h
  | some m =>
    have h0 := ho m rfl
    simp only [readS, Option.bind_some] at h
    split at h
    · cases h
    · rename_i hh
      simp only [Option.some.injEq] at h
      omega
def headL (s : List UInt8) : Int × List UInt8 × Bool := if Lib.hasPrefix s runW then (1, s.drop 4, true) else if Lib.hasPrefix s askW then (2, s.drop 4, true) else (2, s, false)
def readL (s : List UInt8) : Option Ac :=
  match readN (headL s).2.1 with
  | none => none
  | some n => if (headL s).2.2 && oneB ⟨(headL s).1, n⟩ && decide (lineL ⟨(headL s).1, n⟩ = s) then some ⟨(headL s).1, n⟩ else none
def readV (o : Option Ac) : Value := match o with
  | some a => .tuple #[a.val, .bool true]
  | none => .tuple #[.agg #[.int .i64 0, .int .i64 0], .bool false]
theorem oneB_bd {a : Ac} (h : oneB a = true) : 0 ≤ a.n ∧ a.n ≤ 65536 := by
  simp [oneB] at h
  omega
theorem toList_mk (l : List UInt8) : (ByteArray.mk l.toArray).toList = l := by rw [Lib.toList_data]
theorem beq_mk (a b : List UInt8) : ((ByteArray.mk a.toArray).toList == (ByteArray.mk b.toArray).toList) = decide (a = b) := by
  rw [toList_mk, toList_mk]
  by_cases h : a = b
  · subst h; simp
  · simp [h]
theorem results_row_tmp {P : Program} {fn : Func} {p q : Tmp} {ty : TypeId} (h : fn.results = #[.cell p ty, .tmp q]) (tmps : Array Value) (w : World) (g : Nat) (t : TypeId) (cs : Array Value) (fr : Nat × Nat) (d : TypeDesc)
    (hp : tmps.getD p undef = .pointer (some ⟨g, 0, none⟩)) (hg : w.heap[g]? = some (.cells cs t fr))
    (hu : P.underlying ty = some d) (hd : (match d with | .struct _ | .array _ _ => true | _ => false) = true) (hi : (P.info? ty).map (·.size) = some cs.size) :
    (results fn tmps).run P w = .ok (.tuple #[.agg cs, tmps.getD q undef]) w := by
  have hp' : tmps[p]?.getD undef = .pointer (some ⟨g, 0, none⟩) := by simpa using hp
  simp [results, h, hp', asAddr, run_loadVar_row w g t ty cs fr d hg hu hd hi]
theorem u8_bd (c : UInt8) : c.toNat ≤ 255 := by have := c.toNat_lt; omega
set_option maxHeartbeats 8000000 in
theorem read_run (s : List UInt8) (hp : Lib.hasPrefix s runW = true) (hs : s.length ≤ 9223372036854775807) (W : World) (hT : TabS W) :
    Calls Tryd.prog 33 #[strV s] W fun e W' => e = .returned (readV (readL s)) ∧ Chg [] W W' := by
  obtain ⟨R, hR⟩ : ∃ R, readL s = R := ⟨_, rfl⟩
  rw [hR]
  obtain ⟨rest, hrest⟩ : ∃ rest, s.drop 4 = rest := ⟨_, rfl⟩
  have hhead : headL s = (1, rest, true) := by unfold headL; rw [if_pos hp]; rw [hrest]
  have HR : Hid ((match readN rest with | none => none | some n => if true && oneB ⟨1, n⟩ && decide (lineL ⟨1, n⟩ = s) then some ⟨1, n⟩ else none) = R) := Lib.hid (by rw [← hR]; unfold readL; rw [hhead])
  have hcp1 : ∀ w, Calls Tryd.prog 45 #[strV s, .string ⟨#[114, 117, 110, 32]⟩] w fun e w' => e = .returned (.tuple #[strV rest, .bool true]) ∧ w = w' := fun w => by
    have := Tryd.strings_CutPrefix ⟨s.toArray⟩ ⟨runW.toArray⟩ w
    simp only [eq_comm (b := w)] at this
    rwa [show Lib.trimPrefix s runW = rest from by unfold Lib.trimPrefix; rw [if_pos hp]; exact hrest, hp] at this
  have HC1 := Lib.hid hcp1
  have hlr : rest.length ≤ s.length := by rw [← hrest]; simp
  have HLR : Hid (rest.length ≤ 9223372036854775807) := Lib.hid (by omega)
  have HT := Lib.hid hT
  have hcv := fun w => Lib.run_convert_string_bytes (P := Tryd.prog) w 9 51 5 ⟨rest.toArray⟩ (u := .string) Tryd.underlying9 Tryd.underlying51 Tryd.underlying5
  rw [show (ByteArray.mk rest.toArray).size = rest.length from by simp [ByteArray.size]] at hcv
  clear hcp1 hp hhead hrest hlr hs hT hR
  go_enter Tryd.func33, Tryd.ntmps33
  go_upto_region 7 with (first | (go_at_call 45; refine (HC1.out _).mono ?_; rintro e w' ⟨rfl, rfl⟩))
  obtain ⟨V2, hV2⟩ : ∃ V2, ((W.alloc (.cells #[.int .i64 0, .int .i64 0] 43)).alloc (.cells #[.int .i64 1, .int .i64 0] 43)) = V2 := ⟨_, rfl⟩
  rw [hV2]
  have hz : Blk ((W.alloc (.cells #[.int .i64 0, .int .i64 0] 43)).alloc (.cells #[.int .i64 1, .int .i64 0] 43)) (W.heap.size + 1) #[.int .i64 1, .int .i64 0] 43 := by
    have := Blk.new (W.alloc (.cells #[.int .i64 0, .int .i64 0] 43)) #[.int .i64 1, .int .i64 0] 43
    rwa [World.size_alloc] at this
  have hz2 : Blk ((W.alloc (.cells #[.int .i64 0, .int .i64 0] 43)).alloc (.cells #[.int .i64 1, .int .i64 0] 43)) W.heap.size #[.int .i64 0, .int .i64 0] 43 := (Blk.new W _ _).alloc _
  have hsz2 : V2.heap.size = W.heap.size + 1 + 1 := by rw [← hV2]; simp
  have HC2V : Hid (Chg [] W V2) := Lib.hid (by rw [← hV2]; exact ((Chg.refl [] W).alloc _).alloc _)
  rw [hV2] at hz hz2
  clear hV2
  have v0 : V2.cell? ⟨W.heap.size + 1, 0, none⟩ = some (.int .i64 1) := hz.cell rfl
  have v1 : V2.frozen? ⟨W.heap.size + 1, 0, none⟩ = false := hz.free 0

  obtain ⟨V0, hV0⟩ : ∃ V0, Lib.bytesWorld V2 5 ⟨rest.toArray⟩ = V0 := ⟨_, rfl⟩
  rw [hV0]
  obtain ⟨cap, hcap⟩ : ∃ cap, grownCap V2 rest.length 0 5 = cap := ⟨_, rfl⟩
  rw [hcap]
  clear hcap v0 v1
  have HCH : Hid (Chg [] W V0) := Lib.hid (by rw [← hV0]; exact ((HC2V.out).trans (Chg.bytes _ _ _)))
  have HB4 : Hid (Blk V0 (W.heap.size + 1) #[.int .i64 1, .int .i64 0] 43) := Lib.hid (by rw [← hV0]; exact Blk.keep (hz) (Chg.bytes _ _ _) (by simp))
  have HB2 : Hid (Blk V0 W.heap.size #[.int .i64 0, .int .i64 0] 43) := Lib.hid (by rw [← hV0]; exact Blk.keep (hz2) (Chg.bytes _ _ _) (by simp))
  have HBY : Hid (∀ (j : Nat) (c : UInt8), rest[j]? = some c → V0.cell? ⟨W.heap.size + 1 + 1, j, none⟩ = some (.int .u8 c.toNat)) := Lib.hid (fun j c hc => by
    have hj := List.getElem?_eq_some_iff.1 hc
    have := Lib.bytesWorld_cell V2 5 ⟨rest.toArray⟩ j (by simpa [ByteArray.size] using hj.1)
    rw [hV0, hsz2] at this
    simpa [List.getD, hc] using this)
  clear hz hz2 hsz2 hV0 hcv HC1
  go_loopw [8, 26] (fun c i wr => ∃ (j : Nat) (n : Int), j ≤ rest.length ∧ i = .int .i64 j ∧ Hid ((rest.take j).foldl readS (some 0) = some n ∧ 0 ≤ n ∧ n ≤ 655369) ∧ Hid (Chg [W.heap.size + 1] V0 wr) ∧ Hid (Blk wr (W.heap.size + 1) #[.int .i64 1, .int .i64 n] 43)) (fun _ i _ => rest.length - (intOf i).toNat)
  case atStart => exact ⟨0, 0, Nat.zero_le _, rfl, Lib.hid ⟨rfl, by omega, by omega⟩, Lib.hid (Chg.refl _ _), HB4⟩
  case round =>
    obtain ⟨j, n, hj, rfl, HN, HJ, HB⟩ := hrel
    have HR2 : Hid (Blk wr W.heap.size #[.int .i64 0, .int .i64 0] 43) := Lib.hid (HB2.out.keep HJ.out (by simp))
    have HCW : Hid (Chg [] W wr) := Lib.hid (HCH.out.into HJ.out (by simp))
    have b0 : wr.cell? ⟨W.heap.size + 1, 0, none⟩ = some (.int .i64 1) := HB.out.cell rfl
    have b1 : wr.cell? ⟨W.heap.size + 1, 1, none⟩ = some (.int .i64 n) := HB.out.cell rfl
    have f1 : wr.frozen? ⟨W.heap.size + 1, 1, none⟩ = false := HB.out.free 1
    by_cases hlt : j < rest.length
    · have HLT := Lib.hid hlt
      obtain ⟨c, hc⟩ : ∃ c, rest[j]? = some c := ⟨_, List.getElem?_eq_getElem hlt⟩
      have HC := Lib.hid hc
      have HST : Hid ((rest.take (j + 1)).foldl readS (some 0) = readS (some n) c) := Lib.hid (by rw [take_foldl readS (some 0) hc, HN.out.1])
      have q : wr.cell? ⟨W.heap.size + 1 + 1, j, none⟩ = some (.int .u8 c.toNat) := HJ.out.keep (HBY.out j c hc) (by simp)
      have k8 : IntKind.i64.wrap ((j : Int) + 1) = (j : Int) + 1 := by rw [IntKind.wrap_i64]; have := HLR.out; omega
      have HCB := Lib.hid (u8_bd c)
      clear hc hj
      have bad : readS (some n) c = none → none = R := fun hbad => by
        rw [← HR.out, readN_none (HST.out.trans hbad)]
      by_cases c1 : c.toNat < 48
      · obtain rfl := bad (by simp [readS, c1])
        have m1 : (c.toNat : Int) < 48 := by omega
        clear c1
        clear bad
        go_wp2_with (first | (refine Go.Proofs.YtldbaommeflooaaDoor.blk.wpList_store_blk rfl 43 (.tmp 2) (.tmp 41) rfl W.heap.size #[.int .i64 0, .int .i64 0] rfl rfl HR2.out szAct rfl (by simp [Value.oneCell']) ?_; intro w9 hb9 hc9; have HB9 := Lib.hid hb9; have HC9 := Lib.hid hc9; clear hb9 hc9))
        refine bodyPost_ret (results_row_tmp rfl _ _ W.heap.size 43 #[.int .i64 0, .int .i64 0] (0, 0) _ rfl HB9.out Tryd.underlying43 rfl szAct) rfl ?_
        exact ⟨rfl, HCW.out.into HC9.out (by simp)⟩
      by_cases c2 : 57 < c.toNat
      · obtain rfl := bad (by simp [readS, c2])
        have m1 : ¬ (c.toNat : Int) < 48 := by omega
        have m2 : (57 : Int) < (c.toNat : Int) := by omega
        clear c1 c2
        clear bad
        go_wp2_with (first | (refine Go.Proofs.YtldbaommeflooaaDoor.blk.wpList_store_blk rfl 43 (.tmp 2) (.tmp 41) rfl W.heap.size #[.int .i64 0, .int .i64 0] rfl rfl HR2.out szAct rfl (by simp [Value.oneCell']) ?_; intro w9 hb9 hc9; have HB9 := Lib.hid hb9; have HC9 := Lib.hid hc9; clear hb9 hc9))
        refine bodyPost_ret (results_row_tmp rfl _ _ W.heap.size 43 #[.int .i64 0, .int .i64 0] (0, 0) _ rfl HB9.out Tryd.underlying43 rfl szAct) rfl ?_
        exact ⟨rfl, HCW.out.into HC9.out (by simp)⟩
      by_cases c3 : 65536 < n
      · obtain rfl := bad (by simp [readS, c3])
        have m1 : ¬ (c.toNat : Int) < 48 := by omega
        have m2 : ¬ (57 : Int) < (c.toNat : Int) := by omega
        clear c1 c2
        clear bad
        go_wp2_with (first | (refine Go.Proofs.YtldbaommeflooaaDoor.blk.wpList_store_blk rfl 43 (.tmp 2) (.tmp 41) rfl W.heap.size #[.int .i64 0, .int .i64 0] rfl rfl HR2.out szAct rfl (by simp [Value.oneCell']) ?_; intro w9 hb9 hc9; have HB9 := Lib.hid hb9; have HC9 := Lib.hid hc9; clear hb9 hc9))
        refine bodyPost_ret (results_row_tmp rfl _ _ W.heap.size 43 #[.int .i64 0, .int .i64 0] (0, 0) _ rfl HB9.out Tryd.underlying43 rfl szAct) rfl ?_
        exact ⟨rfl, HCW.out.into HC9.out (by simp)⟩
      have m1 : ¬ (c.toNat : Int) < 48 := by omega
      have m2 : ¬ (57 : Int) < (c.toNat : Int) := by omega
      have HNX : Hid ((rest.take (j + 1)).foldl readS (some 0) = some (10 * n + ((c.toNat : Int) - 48))) := Lib.hid (by rw [HST.out]; simp [readS, c1, c2, c3])
      have HBN : Hid (0 ≤ 10 * n + ((c.toNat : Int) - 48) ∧ 10 * n + ((c.toNat : Int) - 48) ≤ 655369) := Lib.hid (by have := HN.out.2; omega)
      have k9 : IntKind.i64.wrap (10 * n) = 10 * n := by rw [IntKind.wrap_i64]; have := HN.out.2; omega
      have k10 : IntKind.u8.wrap ((c.toNat : Int) - 48) = (c.toNat : Int) - 48 := by rw [IntKind.wrap_u8]; omega
      have k11 : IntKind.i64.wrap ((c.toNat : Int) - 48) = (c.toNat : Int) - 48 := by rw [IntKind.wrap_i64]; omega
      have k12 : IntKind.i64.wrap (10 * n + ((c.toNat : Int) - 48)) = 10 * n + ((c.toNat : Int) - 48) := by rw [IntKind.wrap_i64]; have := HBN.out; omega
      clear c1 c2 bad HST
      go_wp2_with fail
      have hltj := HLT.out
      go_roundw
      case rel => exact ⟨j + 1, 10 * n + ((c.toNat : Int) - 48), by omega, by go_num, Lib.hid ⟨HNX.out, HBN.out⟩, Lib.hid (HJ.out.setCell (.inl (by simp)) _), Lib.hid (HB.out.set 1 _)⟩
      case measure => simp [intOf]; omega
    · obtain rfl : rest.length = j := by omega
      clear hlt hj
      have hn := HN.out.1
      rw [List.take_length] at hn
      have HRN : Hid ((if true && oneB ⟨1, n⟩ && decide (lineL ⟨1, n⟩ = s) then some ⟨1, n⟩ else none) = R) := Lib.hid (by rw [← HR.out, show readN rest = some n from hn])
      clear hn

      cases hone : oneB ⟨1, n⟩
      · obtain rfl : none = R := by rw [← HRN.out, hone]; rfl
        go_wp2_with (first | (go_at_call 24; refine (one_any _ _ _).mono ?_; rintro e w' ⟨rfl, hcg⟩; rw [hone]; have HR2 := Lib.hid (HR2.out.keep hcg (by simp)); have HCW := Lib.hid (HCW.out.trans hcg); have HB := Lib.hid (HB.out.keep hcg (by simp)); clear hcg b0 b1 f1; have b0 : w'.cell? ⟨W.heap.size + 1, 0, none⟩ = some (.int .i64 1) := HB.out.cell rfl; have b1 : w'.cell? ⟨W.heap.size + 1, 1, none⟩ = some (.int .i64 n) := HB.out.cell rfl) | (refine Go.Proofs.YtldbaommeflooaaDoor.blk.wpList_store_blk rfl 43 (.tmp 2) (.tmp 64) rfl W.heap.size #[.int .i64 0, .int .i64 0] rfl rfl HR2.out szAct rfl (by simp [Value.oneCell']) ?_; intro w9 hb9 hc9; have HB9 := Lib.hid hb9; have HC9 := Lib.hid hc9; clear hb9 hc9))
        refine bodyPost_ret (results_row_tmp rfl _ _ W.heap.size 43 #[.int .i64 0, .int .i64 0] (0, 0) _ rfl HB9.out Tryd.underlying43 rfl szAct) rfl ?_
        exact ⟨rfl, HCW.out.into HC9.out (by simp)⟩
      · have HBD := Lib.hid (oneB_bd hone)
        obtain ⟨ln, hln⟩ : ∃ ln, lineL ⟨1, n⟩ = ln := ⟨_, rfl⟩
        have HLN := Lib.hid hln
        by_cases hse : ln = s
        · subst hse
          obtain rfl : some ⟨1, n⟩ = R := by rw [← HRN.out, hone, hln]; simp
          clear hln
          go_wp2_with (first | (go_at_call 24; refine (one_any _ _ _).mono ?_; rintro e w' ⟨rfl, hcg⟩; rw [hone]; have HR2 := Lib.hid (HR2.out.keep hcg (by simp)); have HCW := Lib.hid (HCW.out.trans hcg); have HB := Lib.hid (HB.out.keep hcg (by simp)); clear hcg b0 b1 f1; have b0 : w'.cell? ⟨W.heap.size + 1, 0, none⟩ = some (.int .i64 1) := HB.out.cell rfl; have b1 : w'.cell? ⟨W.heap.size + 1, 1, none⟩ = some (.int .i64 n) := HB.out.cell rfl) | (go_at_call 28; refine (line_any _ _ HBD.out.1 HBD.out.2 _ (HT.out.keep HCW.out)).mono ?_; rintro e wl ⟨rfl, hcg⟩; rw [HLN.out]; have HR2 := Lib.hid (HR2.out.keep hcg (by simp)); have HCW := Lib.hid (HCW.out.trans hcg); have HB := Lib.hid (HB.out.keep hcg (by simp)); clear hcg b0 b1; have b0 : wl.cell? ⟨W.heap.size + 1, 0, none⟩ = some (.int .i64 1) := HB.out.cell rfl; have b1 : wl.cell? ⟨W.heap.size + 1, 1, none⟩ = some (.int .i64 n) := HB.out.cell rfl) | (refine Go.Proofs.YtldbaommeflooaaDoor.blk.wpList_store_blk rfl 43 (.tmp 2) (.tmp 65) rfl W.heap.size #[.int .i64 1, .int .i64 n] rfl rfl HR2.out szAct rfl (by simp [Value.oneCell']) ?_; intro w9 hb9 hc9; have HB9 := Lib.hid hb9; have HC9 := Lib.hid hc9; clear hb9 hc9))
          refine bodyPost_ret (results_row_tmp rfl _ _ W.heap.size 43 #[.int .i64 1, .int .i64 n] (0, 0) _ rfl HB9.out Tryd.underlying43 rfl szAct) rfl ?_
          exact ⟨rfl, HCW.out.into HC9.out (by simp)⟩
        · have hbq : (ln == s) = false := by simpa using hse
          obtain rfl : none = R := by rw [← HRN.out, hone, hln]; simp [hse]
          clear hln
          go_wp2_with (first | (go_at_call 24; refine (one_any _ _ _).mono ?_; rintro e w' ⟨rfl, hcg⟩; rw [hone]; have HR2 := Lib.hid (HR2.out.keep hcg (by simp)); have HCW := Lib.hid (HCW.out.trans hcg); have HB := Lib.hid (HB.out.keep hcg (by simp)); clear hcg b0 b1 f1; have b0 : w'.cell? ⟨W.heap.size + 1, 0, none⟩ = some (.int .i64 1) := HB.out.cell rfl; have b1 : w'.cell? ⟨W.heap.size + 1, 1, none⟩ = some (.int .i64 n) := HB.out.cell rfl) | (go_at_call 28; refine (line_any _ _ HBD.out.1 HBD.out.2 _ (HT.out.keep HCW.out)).mono ?_; rintro e wl ⟨rfl, hcg⟩; rw [HLN.out]; have HR2 := Lib.hid (HR2.out.keep hcg (by simp)); have HCW := Lib.hid (HCW.out.trans hcg); have HB := Lib.hid (HB.out.keep hcg (by simp)); clear hcg b0 b1; have b0 : wl.cell? ⟨W.heap.size + 1, 0, none⟩ = some (.int .i64 1) := HB.out.cell rfl; have b1 : wl.cell? ⟨W.heap.size + 1, 1, none⟩ = some (.int .i64 n) := HB.out.cell rfl) | (refine Go.Proofs.YtldbaommeflooaaDoor.blk.wpList_store_blk rfl 43 (.tmp 2) (.tmp 64) rfl W.heap.size #[.int .i64 0, .int .i64 0] rfl rfl HR2.out szAct rfl (by simp [Value.oneCell']) ?_; intro w9 hb9 hc9; have HB9 := Lib.hid hb9; have HC9 := Lib.hid hc9; clear hb9 hc9))
          refine bodyPost_ret (results_row_tmp rfl _ _ W.heap.size 43 #[.int .i64 0, .int .i64 0] (0, 0) _ rfl HB9.out Tryd.underlying43 rfl szAct) rfl ?_
          exact ⟨rfl, HCW.out.into HC9.out (by simp)⟩
set_option maxHeartbeats 8000000 in
theorem read_ask (s : List UInt8) (hq : Lib.hasPrefix s runW = false) (hp : Lib.hasPrefix s askW = true) (hs : s.length ≤ 9223372036854775807) (W : World) (hT : TabS W) :
    Calls Tryd.prog 33 #[strV s] W fun e W' => e = .returned (readV (readL s)) ∧ Chg [] W W' := by
  obtain ⟨R, hR⟩ : ∃ R, readL s = R := ⟨_, rfl⟩
  rw [hR]
  obtain ⟨rest, hrest⟩ : ∃ rest, s.drop 4 = rest := ⟨_, rfl⟩
  have hhead : headL s = (2, rest, true) := by unfold headL; rw [if_neg (by simp [hq]), if_pos hp]; rw [hrest]
  have HR : Hid ((match readN rest with | none => none | some n => if true && oneB ⟨2, n⟩ && decide (lineL ⟨2, n⟩ = s) then some ⟨2, n⟩ else none) = R) := Lib.hid (by rw [← hR]; unfold readL; rw [hhead])
  have hcp1 : ∀ w, Calls Tryd.prog 45 #[strV s, .string ⟨#[114, 117, 110, 32]⟩] w fun e w' => e = .returned (.tuple #[strV s, .bool false]) ∧ w = w' := fun w => by
    have := Tryd.strings_CutPrefix ⟨s.toArray⟩ ⟨runW.toArray⟩ w
    simp only [eq_comm (b := w)] at this
    rwa [show Lib.trimPrefix s runW = s from by unfold Lib.trimPrefix; rw [hq]; rfl, hq] at this
  have HC1 := Lib.hid hcp1
  have hcp2 : ∀ w, Calls Tryd.prog 45 #[strV s, .string ⟨#[97, 115, 107, 32]⟩] w fun e w' => e = .returned (.tuple #[strV rest, .bool true]) ∧ w = w' := fun w => by
    have := Tryd.strings_CutPrefix ⟨s.toArray⟩ ⟨askW.toArray⟩ w
    simp only [eq_comm (b := w)] at this
    rwa [show Lib.trimPrefix s askW = rest from by unfold Lib.trimPrefix; rw [if_pos hp]; exact hrest, hp] at this
  have HC2 := Lib.hid hcp2
  clear hcp2 hq
  have hlr : rest.length ≤ s.length := by rw [← hrest]; simp
  have HLR : Hid (rest.length ≤ 9223372036854775807) := Lib.hid (by omega)
  have HT := Lib.hid hT
  have hcv := fun w => Lib.run_convert_string_bytes (P := Tryd.prog) w 9 51 5 ⟨rest.toArray⟩ (u := .string) Tryd.underlying9 Tryd.underlying51 Tryd.underlying5
  rw [show (ByteArray.mk rest.toArray).size = rest.length from by simp [ByteArray.size]] at hcv
  clear hcp1 hp hhead hrest hlr hs hT hR
  go_enter Tryd.func33, Tryd.ntmps33
  go_upto_region 4 with (first | (go_at_call 45; refine (HC1.out _).mono ?_; rintro e w' ⟨rfl, rfl⟩))
  obtain ⟨V2, hV2⟩ : ∃ V2, ((W.alloc (.cells #[.int .i64 0, .int .i64 0] 43)).alloc (.cells #[.int .i64 1, .int .i64 0] 43)) = V2 := ⟨_, rfl⟩
  rw [hV2]
  have hz : Blk ((W.alloc (.cells #[.int .i64 0, .int .i64 0] 43)).alloc (.cells #[.int .i64 1, .int .i64 0] 43)) (W.heap.size + 1) #[.int .i64 1, .int .i64 0] 43 := by
    have := Blk.new (W.alloc (.cells #[.int .i64 0, .int .i64 0] 43)) #[.int .i64 1, .int .i64 0] 43
    rwa [World.size_alloc] at this
  have hz2 : Blk ((W.alloc (.cells #[.int .i64 0, .int .i64 0] 43)).alloc (.cells #[.int .i64 1, .int .i64 0] 43)) W.heap.size #[.int .i64 0, .int .i64 0] 43 := (Blk.new W _ _).alloc _
  have hsz2 : V2.heap.size = W.heap.size + 1 + 1 := by rw [← hV2]; simp
  have HC2V : Hid (Chg [] W V2) := Lib.hid (by rw [← hV2]; exact ((Chg.refl [] W).alloc _).alloc _)
  rw [hV2] at hz hz2
  clear hV2
  have v0 : V2.cell? ⟨W.heap.size + 1, 0, none⟩ = some (.int .i64 1) := hz.cell rfl
  have v1 : V2.frozen? ⟨W.heap.size + 1, 0, none⟩ = false := hz.free 0
  go_upto_region 7 with (first | (go_at_call 45; refine (HC2.out _).mono ?_; rintro e w' ⟨rfl, rfl⟩))
  obtain ⟨V0, hV0⟩ : ∃ V0, Lib.bytesWorld (V2.setCell ⟨W.heap.size + 1, 0, none⟩ (.int .i64 2)) 5 ⟨rest.toArray⟩ = V0 := ⟨_, rfl⟩
  rw [hV0]
  obtain ⟨cap, hcap⟩ : ∃ cap, grownCap (V2.setCell ⟨W.heap.size + 1, 0, none⟩ (.int .i64 2)) rest.length 0 5 = cap := ⟨_, rfl⟩
  rw [hcap]
  clear hcap v0 v1
  have HCH : Hid (Chg [] W V0) := Lib.hid (by rw [← hV0]; exact ((HC2V.out.setCell (.inr (by simp)) _).trans (Chg.bytes _ _ _)))
  have HB4 : Hid (Blk V0 (W.heap.size + 1) #[.int .i64 2, .int .i64 0] 43) := Lib.hid (by rw [← hV0]; exact Blk.keep (hz.set 0 _) (Chg.bytes _ _ _) (by simp))
  have HB2 : Hid (Blk V0 W.heap.size #[.int .i64 0, .int .i64 0] 43) := Lib.hid (by rw [← hV0]; exact Blk.keep (hz2.set_ne (b' := W.heap.size + 1) (by omega) _ _ _) (Chg.bytes _ _ _) (by simp))
  have HBY : Hid (∀ (j : Nat) (c : UInt8), rest[j]? = some c → V0.cell? ⟨W.heap.size + 1 + 1, j, none⟩ = some (.int .u8 c.toNat)) := Lib.hid (fun j c hc => by
    have hj := List.getElem?_eq_some_iff.1 hc
    have := Lib.bytesWorld_cell (V2.setCell ⟨W.heap.size + 1, 0, none⟩ (.int .i64 2)) 5 ⟨rest.toArray⟩ j (by simpa [ByteArray.size] using hj.1)
    rw [hV0, show (V2.setCell ⟨W.heap.size + 1, 0, none⟩ (.int .i64 2)).heap.size = W.heap.size + 1 + 1 from by simp [hsz2]] at this
    simpa [List.getD, hc] using this)
  clear hz hz2 hsz2 hV0 hcv HC1 HC2
  go_loopw [8, 26] (fun c i wr => ∃ (j : Nat) (n : Int), j ≤ rest.length ∧ i = .int .i64 j ∧ Hid ((rest.take j).foldl readS (some 0) = some n ∧ 0 ≤ n ∧ n ≤ 655369) ∧ Hid (Chg [W.heap.size + 1] V0 wr) ∧ Hid (Blk wr (W.heap.size + 1) #[.int .i64 2, .int .i64 n] 43)) (fun _ i _ => rest.length - (intOf i).toNat)
  case atStart => exact ⟨0, 0, Nat.zero_le _, rfl, Lib.hid ⟨rfl, by omega, by omega⟩, Lib.hid (Chg.refl _ _), HB4⟩
  case round =>
    obtain ⟨j, n, hj, rfl, HN, HJ, HB⟩ := hrel
    have HR2 : Hid (Blk wr W.heap.size #[.int .i64 0, .int .i64 0] 43) := Lib.hid (HB2.out.keep HJ.out (by simp))
    have HCW : Hid (Chg [] W wr) := Lib.hid (HCH.out.into HJ.out (by simp))
    have b0 : wr.cell? ⟨W.heap.size + 1, 0, none⟩ = some (.int .i64 2) := HB.out.cell rfl
    have b1 : wr.cell? ⟨W.heap.size + 1, 1, none⟩ = some (.int .i64 n) := HB.out.cell rfl
    have f1 : wr.frozen? ⟨W.heap.size + 1, 1, none⟩ = false := HB.out.free 1
    by_cases hlt : j < rest.length
    · have HLT := Lib.hid hlt
      obtain ⟨c, hc⟩ : ∃ c, rest[j]? = some c := ⟨_, List.getElem?_eq_getElem hlt⟩
      have HC := Lib.hid hc
      have HST : Hid ((rest.take (j + 1)).foldl readS (some 0) = readS (some n) c) := Lib.hid (by rw [take_foldl readS (some 0) hc, HN.out.1])
      have q : wr.cell? ⟨W.heap.size + 1 + 1, j, none⟩ = some (.int .u8 c.toNat) := HJ.out.keep (HBY.out j c hc) (by simp)
      have k8 : IntKind.i64.wrap ((j : Int) + 1) = (j : Int) + 1 := by rw [IntKind.wrap_i64]; have := HLR.out; omega
      have HCB := Lib.hid (u8_bd c)
      clear hc hj
      have bad : readS (some n) c = none → none = R := fun hbad => by
        rw [← HR.out, readN_none (HST.out.trans hbad)]
      by_cases c1 : c.toNat < 48
      · obtain rfl := bad (by simp [readS, c1])
        have m1 : (c.toNat : Int) < 48 := by omega
        clear c1
        clear bad
        go_wp2_with (first | (refine Go.Proofs.YtldbaommeflooaaDoor.blk.wpList_store_blk rfl 43 (.tmp 2) (.tmp 41) rfl W.heap.size #[.int .i64 0, .int .i64 0] rfl rfl HR2.out szAct rfl (by simp [Value.oneCell']) ?_; intro w9 hb9 hc9; have HB9 := Lib.hid hb9; have HC9 := Lib.hid hc9; clear hb9 hc9))
        refine bodyPost_ret (results_row_tmp rfl _ _ W.heap.size 43 #[.int .i64 0, .int .i64 0] (0, 0) _ rfl HB9.out Tryd.underlying43 rfl szAct) rfl ?_
        exact ⟨rfl, HCW.out.into HC9.out (by simp)⟩
      by_cases c2 : 57 < c.toNat
      · obtain rfl := bad (by simp [readS, c2])
        have m1 : ¬ (c.toNat : Int) < 48 := by omega
        have m2 : (57 : Int) < (c.toNat : Int) := by omega
        clear c1 c2
        clear bad
        go_wp2_with (first | (refine Go.Proofs.YtldbaommeflooaaDoor.blk.wpList_store_blk rfl 43 (.tmp 2) (.tmp 41) rfl W.heap.size #[.int .i64 0, .int .i64 0] rfl rfl HR2.out szAct rfl (by simp [Value.oneCell']) ?_; intro w9 hb9 hc9; have HB9 := Lib.hid hb9; have HC9 := Lib.hid hc9; clear hb9 hc9))
        refine bodyPost_ret (results_row_tmp rfl _ _ W.heap.size 43 #[.int .i64 0, .int .i64 0] (0, 0) _ rfl HB9.out Tryd.underlying43 rfl szAct) rfl ?_
        exact ⟨rfl, HCW.out.into HC9.out (by simp)⟩
      by_cases c3 : 65536 < n
      · obtain rfl := bad (by simp [readS, c3])
        have m1 : ¬ (c.toNat : Int) < 48 := by omega
        have m2 : ¬ (57 : Int) < (c.toNat : Int) := by omega
        clear c1 c2
        clear bad
        go_wp2_with (first | (refine Go.Proofs.YtldbaommeflooaaDoor.blk.wpList_store_blk rfl 43 (.tmp 2) (.tmp 41) rfl W.heap.size #[.int .i64 0, .int .i64 0] rfl rfl HR2.out szAct rfl (by simp [Value.oneCell']) ?_; intro w9 hb9 hc9; have HB9 := Lib.hid hb9; have HC9 := Lib.hid hc9; clear hb9 hc9))
        refine bodyPost_ret (results_row_tmp rfl _ _ W.heap.size 43 #[.int .i64 0, .int .i64 0] (0, 0) _ rfl HB9.out Tryd.underlying43 rfl szAct) rfl ?_
        exact ⟨rfl, HCW.out.into HC9.out (by simp)⟩
      have m1 : ¬ (c.toNat : Int) < 48 := by omega
      have m2 : ¬ (57 : Int) < (c.toNat : Int) := by omega
      have HNX : Hid ((rest.take (j + 1)).foldl readS (some 0) = some (10 * n + ((c.toNat : Int) - 48))) := Lib.hid (by rw [HST.out]; simp [readS, c1, c2, c3])
      have HBN : Hid (0 ≤ 10 * n + ((c.toNat : Int) - 48) ∧ 10 * n + ((c.toNat : Int) - 48) ≤ 655369) := Lib.hid (by have := HN.out.2; omega)
      have k9 : IntKind.i64.wrap (10 * n) = 10 * n := by rw [IntKind.wrap_i64]; have := HN.out.2; omega
      have k10 : IntKind.u8.wrap ((c.toNat : Int) - 48) = (c.toNat : Int) - 48 := by rw [IntKind.wrap_u8]; omega
      have k11 : IntKind.i64.wrap ((c.toNat : Int) - 48) = (c.toNat : Int) - 48 := by rw [IntKind.wrap_i64]; omega
      have k12 : IntKind.i64.wrap (10 * n + ((c.toNat : Int) - 48)) = 10 * n + ((c.toNat : Int) - 48) := by rw [IntKind.wrap_i64]; have := HBN.out; omega
      clear c1 c2 bad HST
      go_wp2_with fail
      have hltj := HLT.out
      go_roundw
      case rel => exact ⟨j + 1, 10 * n + ((c.toNat : Int) - 48), by omega, by go_num, Lib.hid ⟨HNX.out, HBN.out⟩, Lib.hid (HJ.out.setCell (.inl (by simp)) _), Lib.hid (HB.out.set 1 _)⟩
      case measure => simp [intOf]; omega
    · obtain rfl : rest.length = j := by omega
      clear hlt hj
      have hn := HN.out.1
      rw [List.take_length] at hn
      have HRN : Hid ((if true && oneB ⟨2, n⟩ && decide (lineL ⟨2, n⟩ = s) then some ⟨2, n⟩ else none) = R) := Lib.hid (by rw [← HR.out, show readN rest = some n from hn])
      clear hn

      cases hone : oneB ⟨2, n⟩
      · obtain rfl : none = R := by rw [← HRN.out, hone]; rfl
        go_wp2_with (first | (go_at_call 24; refine (one_any _ _ _).mono ?_; rintro e w' ⟨rfl, hcg⟩; rw [hone]; have HR2 := Lib.hid (HR2.out.keep hcg (by simp)); have HCW := Lib.hid (HCW.out.trans hcg); have HB := Lib.hid (HB.out.keep hcg (by simp)); clear hcg b0 b1 f1; have b0 : w'.cell? ⟨W.heap.size + 1, 0, none⟩ = some (.int .i64 2) := HB.out.cell rfl; have b1 : w'.cell? ⟨W.heap.size + 1, 1, none⟩ = some (.int .i64 n) := HB.out.cell rfl) | (refine Go.Proofs.YtldbaommeflooaaDoor.blk.wpList_store_blk rfl 43 (.tmp 2) (.tmp 64) rfl W.heap.size #[.int .i64 0, .int .i64 0] rfl rfl HR2.out szAct rfl (by simp [Value.oneCell']) ?_; intro w9 hb9 hc9; have HB9 := Lib.hid hb9; have HC9 := Lib.hid hc9; clear hb9 hc9))
        refine bodyPost_ret (results_row_tmp rfl _ _ W.heap.size 43 #[.int .i64 0, .int .i64 0] (0, 0) _ rfl HB9.out Tryd.underlying43 rfl szAct) rfl ?_
        exact ⟨rfl, HCW.out.into HC9.out (by simp)⟩
      · have HBD := Lib.hid (oneB_bd hone)
        obtain ⟨ln, hln⟩ : ∃ ln, lineL ⟨2, n⟩ = ln := ⟨_, rfl⟩
        have HLN := Lib.hid hln
        by_cases hse : ln = s
        · subst hse
          obtain rfl : some ⟨2, n⟩ = R := by rw [← HRN.out, hone, hln]; simp
          clear hln
          go_wp2_with (first | (go_at_call 24; refine (one_any _ _ _).mono ?_; rintro e w' ⟨rfl, hcg⟩; rw [hone]; have HR2 := Lib.hid (HR2.out.keep hcg (by simp)); have HCW := Lib.hid (HCW.out.trans hcg); have HB := Lib.hid (HB.out.keep hcg (by simp)); clear hcg b0 b1 f1; have b0 : w'.cell? ⟨W.heap.size + 1, 0, none⟩ = some (.int .i64 2) := HB.out.cell rfl; have b1 : w'.cell? ⟨W.heap.size + 1, 1, none⟩ = some (.int .i64 n) := HB.out.cell rfl) | (go_at_call 28; refine (line_any _ _ HBD.out.1 HBD.out.2 _ (HT.out.keep HCW.out)).mono ?_; rintro e wl ⟨rfl, hcg⟩; rw [HLN.out]; have HR2 := Lib.hid (HR2.out.keep hcg (by simp)); have HCW := Lib.hid (HCW.out.trans hcg); have HB := Lib.hid (HB.out.keep hcg (by simp)); clear hcg b0 b1; have b0 : wl.cell? ⟨W.heap.size + 1, 0, none⟩ = some (.int .i64 2) := HB.out.cell rfl; have b1 : wl.cell? ⟨W.heap.size + 1, 1, none⟩ = some (.int .i64 n) := HB.out.cell rfl) | (refine Go.Proofs.YtldbaommeflooaaDoor.blk.wpList_store_blk rfl 43 (.tmp 2) (.tmp 65) rfl W.heap.size #[.int .i64 2, .int .i64 n] rfl rfl HR2.out szAct rfl (by simp [Value.oneCell']) ?_; intro w9 hb9 hc9; have HB9 := Lib.hid hb9; have HC9 := Lib.hid hc9; clear hb9 hc9))
          refine bodyPost_ret (results_row_tmp rfl _ _ W.heap.size 43 #[.int .i64 2, .int .i64 n] (0, 0) _ rfl HB9.out Tryd.underlying43 rfl szAct) rfl ?_
          exact ⟨rfl, HCW.out.into HC9.out (by simp)⟩
        · have hbq : (ln == s) = false := by simpa using hse
          obtain rfl : none = R := by rw [← HRN.out, hone, hln]; simp [hse]
          clear hln
          go_wp2_with (first | (go_at_call 24; refine (one_any _ _ _).mono ?_; rintro e w' ⟨rfl, hcg⟩; rw [hone]; have HR2 := Lib.hid (HR2.out.keep hcg (by simp)); have HCW := Lib.hid (HCW.out.trans hcg); have HB := Lib.hid (HB.out.keep hcg (by simp)); clear hcg b0 b1 f1; have b0 : w'.cell? ⟨W.heap.size + 1, 0, none⟩ = some (.int .i64 2) := HB.out.cell rfl; have b1 : w'.cell? ⟨W.heap.size + 1, 1, none⟩ = some (.int .i64 n) := HB.out.cell rfl) | (go_at_call 28; refine (line_any _ _ HBD.out.1 HBD.out.2 _ (HT.out.keep HCW.out)).mono ?_; rintro e wl ⟨rfl, hcg⟩; rw [HLN.out]; have HR2 := Lib.hid (HR2.out.keep hcg (by simp)); have HCW := Lib.hid (HCW.out.trans hcg); have HB := Lib.hid (HB.out.keep hcg (by simp)); clear hcg b0 b1; have b0 : wl.cell? ⟨W.heap.size + 1, 0, none⟩ = some (.int .i64 2) := HB.out.cell rfl; have b1 : wl.cell? ⟨W.heap.size + 1, 1, none⟩ = some (.int .i64 n) := HB.out.cell rfl) | (refine Go.Proofs.YtldbaommeflooaaDoor.blk.wpList_store_blk rfl 43 (.tmp 2) (.tmp 64) rfl W.heap.size #[.int .i64 0, .int .i64 0] rfl rfl HR2.out szAct rfl (by simp [Value.oneCell']) ?_; intro w9 hb9 hc9; have HB9 := Lib.hid hb9; have HC9 := Lib.hid hc9; clear hb9 hc9))
          refine bodyPost_ret (results_row_tmp rfl _ _ W.heap.size 43 #[.int .i64 0, .int .i64 0] (0, 0) _ rfl HB9.out Tryd.underlying43 rfl szAct) rfl ?_
          exact ⟨rfl, HCW.out.into HC9.out (by simp)⟩
set_option maxHeartbeats 8000000 in
theorem read_no (s : List UInt8) (hq : Lib.hasPrefix s runW = false) (hp : Lib.hasPrefix s askW = false) (hs : s.length ≤ 9223372036854775807) (W : World) (hT : TabS W) :
    Calls Tryd.prog 33 #[strV s] W fun e W' => e = .returned (readV (readL s)) ∧ Chg [] W W' := by
  obtain ⟨R, hR⟩ : ∃ R, readL s = R := ⟨_, rfl⟩
  rw [hR]
  obtain ⟨rest, hrest⟩ : ∃ rest, s = rest := ⟨_, rfl⟩
  have hhead : headL s = (2, rest, false) := by unfold headL; rw [if_neg (by simp [hq]), if_neg (by simp [hp])]; rw [hrest]
  have HR : Hid ((match readN rest with | none => none | some n => if false && oneB ⟨2, n⟩ && decide (lineL ⟨2, n⟩ = s) then some ⟨2, n⟩ else none) = R) := Lib.hid (by rw [← hR]; unfold readL; rw [hhead])
  have hcp1 : ∀ w, Calls Tryd.prog 45 #[strV s, .string ⟨#[114, 117, 110, 32]⟩] w fun e w' => e = .returned (.tuple #[strV s, .bool false]) ∧ w = w' := fun w => by
    have := Tryd.strings_CutPrefix ⟨s.toArray⟩ ⟨runW.toArray⟩ w
    simp only [eq_comm (b := w)] at this
    rwa [show Lib.trimPrefix s runW = s from by unfold Lib.trimPrefix; rw [hq]; rfl, hq] at this
  have HC1 := Lib.hid hcp1
  have hcp2 : ∀ w, Calls Tryd.prog 45 #[strV s, .string ⟨#[97, 115, 107, 32]⟩] w fun e w' => e = .returned (.tuple #[strV rest, .bool false]) ∧ w = w' := fun w => by
    have := Tryd.strings_CutPrefix ⟨s.toArray⟩ ⟨askW.toArray⟩ w
    simp only [eq_comm (b := w)] at this
    rwa [show Lib.trimPrefix s askW = rest from by unfold Lib.trimPrefix; rw [hp]; exact hrest, hp] at this
  have HC2 := Lib.hid hcp2
  clear hcp2 hq
  have hlr : rest.length ≤ s.length := by rw [hrest]; exact Nat.le_refl _
  have HLR : Hid (rest.length ≤ 9223372036854775807) := Lib.hid (by omega)
  have HT := Lib.hid hT
  have hcv := fun w => Lib.run_convert_string_bytes (P := Tryd.prog) w 9 51 5 ⟨rest.toArray⟩ (u := .string) Tryd.underlying9 Tryd.underlying51 Tryd.underlying5
  rw [show (ByteArray.mk rest.toArray).size = rest.length from by simp [ByteArray.size]] at hcv
  clear hcp1 hp hhead hrest hlr hs hT hR
  go_enter Tryd.func33, Tryd.ntmps33
  go_upto_region 4 with (first | (go_at_call 45; refine (HC1.out _).mono ?_; rintro e w' ⟨rfl, rfl⟩))
  obtain ⟨V2, hV2⟩ : ∃ V2, ((W.alloc (.cells #[.int .i64 0, .int .i64 0] 43)).alloc (.cells #[.int .i64 1, .int .i64 0] 43)) = V2 := ⟨_, rfl⟩
  rw [hV2]
  have hz : Blk ((W.alloc (.cells #[.int .i64 0, .int .i64 0] 43)).alloc (.cells #[.int .i64 1, .int .i64 0] 43)) (W.heap.size + 1) #[.int .i64 1, .int .i64 0] 43 := by
    have := Blk.new (W.alloc (.cells #[.int .i64 0, .int .i64 0] 43)) #[.int .i64 1, .int .i64 0] 43
    rwa [World.size_alloc] at this
  have hz2 : Blk ((W.alloc (.cells #[.int .i64 0, .int .i64 0] 43)).alloc (.cells #[.int .i64 1, .int .i64 0] 43)) W.heap.size #[.int .i64 0, .int .i64 0] 43 := (Blk.new W _ _).alloc _
  have hsz2 : V2.heap.size = W.heap.size + 1 + 1 := by rw [← hV2]; simp
  have HC2V : Hid (Chg [] W V2) := Lib.hid (by rw [← hV2]; exact ((Chg.refl [] W).alloc _).alloc _)
  rw [hV2] at hz hz2
  clear hV2
  have v0 : V2.cell? ⟨W.heap.size + 1, 0, none⟩ = some (.int .i64 1) := hz.cell rfl
  have v1 : V2.frozen? ⟨W.heap.size + 1, 0, none⟩ = false := hz.free 0
  go_upto_region 7 with (first | (go_at_call 45; refine (HC2.out _).mono ?_; rintro e w' ⟨rfl, rfl⟩))
  obtain ⟨V0, hV0⟩ : ∃ V0, Lib.bytesWorld (V2.setCell ⟨W.heap.size + 1, 0, none⟩ (.int .i64 2)) 5 ⟨rest.toArray⟩ = V0 := ⟨_, rfl⟩
  rw [hV0]
  obtain ⟨cap, hcap⟩ : ∃ cap, grownCap (V2.setCell ⟨W.heap.size + 1, 0, none⟩ (.int .i64 2)) rest.length 0 5 = cap := ⟨_, rfl⟩
  rw [hcap]
  clear hcap v0 v1
  have HCH : Hid (Chg [] W V0) := Lib.hid (by rw [← hV0]; exact ((HC2V.out.setCell (.inr (by simp)) _).trans (Chg.bytes _ _ _)))
  have HB4 : Hid (Blk V0 (W.heap.size + 1) #[.int .i64 2, .int .i64 0] 43) := Lib.hid (by rw [← hV0]; exact Blk.keep (hz.set 0 _) (Chg.bytes _ _ _) (by simp))
  have HB2 : Hid (Blk V0 W.heap.size #[.int .i64 0, .int .i64 0] 43) := Lib.hid (by rw [← hV0]; exact Blk.keep (hz2.set_ne (b' := W.heap.size + 1) (by omega) _ _ _) (Chg.bytes _ _ _) (by simp))
  have HBY : Hid (∀ (j : Nat) (c : UInt8), rest[j]? = some c → V0.cell? ⟨W.heap.size + 1 + 1, j, none⟩ = some (.int .u8 c.toNat)) := Lib.hid (fun j c hc => by
    have hj := List.getElem?_eq_some_iff.1 hc
    have := Lib.bytesWorld_cell (V2.setCell ⟨W.heap.size + 1, 0, none⟩ (.int .i64 2)) 5 ⟨rest.toArray⟩ j (by simpa [ByteArray.size] using hj.1)
    rw [hV0, show (V2.setCell ⟨W.heap.size + 1, 0, none⟩ (.int .i64 2)).heap.size = W.heap.size + 1 + 1 from by simp [hsz2]] at this
    simpa [List.getD, hc] using this)
  clear hz hz2 hsz2 hV0 hcv HC1 HC2
  go_loopw [8, 26] (fun c i wr => ∃ (j : Nat) (n : Int), j ≤ rest.length ∧ i = .int .i64 j ∧ Hid ((rest.take j).foldl readS (some 0) = some n ∧ 0 ≤ n ∧ n ≤ 655369) ∧ Hid (Chg [W.heap.size + 1] V0 wr) ∧ Hid (Blk wr (W.heap.size + 1) #[.int .i64 2, .int .i64 n] 43)) (fun _ i _ => rest.length - (intOf i).toNat)
  case atStart => exact ⟨0, 0, Nat.zero_le _, rfl, Lib.hid ⟨rfl, by omega, by omega⟩, Lib.hid (Chg.refl _ _), HB4⟩
  case round =>
    obtain ⟨j, n, hj, rfl, HN, HJ, HB⟩ := hrel
    have HR2 : Hid (Blk wr W.heap.size #[.int .i64 0, .int .i64 0] 43) := Lib.hid (HB2.out.keep HJ.out (by simp))
    have HCW : Hid (Chg [] W wr) := Lib.hid (HCH.out.into HJ.out (by simp))
    have b0 : wr.cell? ⟨W.heap.size + 1, 0, none⟩ = some (.int .i64 2) := HB.out.cell rfl
    have b1 : wr.cell? ⟨W.heap.size + 1, 1, none⟩ = some (.int .i64 n) := HB.out.cell rfl
    have f1 : wr.frozen? ⟨W.heap.size + 1, 1, none⟩ = false := HB.out.free 1
    by_cases hlt : j < rest.length
    · have HLT := Lib.hid hlt
      obtain ⟨c, hc⟩ : ∃ c, rest[j]? = some c := ⟨_, List.getElem?_eq_getElem hlt⟩
      have HC := Lib.hid hc
      have HST : Hid ((rest.take (j + 1)).foldl readS (some 0) = readS (some n) c) := Lib.hid (by rw [take_foldl readS (some 0) hc, HN.out.1])
      have q : wr.cell? ⟨W.heap.size + 1 + 1, j, none⟩ = some (.int .u8 c.toNat) := HJ.out.keep (HBY.out j c hc) (by simp)
      have k8 : IntKind.i64.wrap ((j : Int) + 1) = (j : Int) + 1 := by rw [IntKind.wrap_i64]; have := HLR.out; omega
      have HCB := Lib.hid (u8_bd c)
      clear hc hj
      have bad : readS (some n) c = none → none = R := fun hbad => by
        rw [← HR.out, readN_none (HST.out.trans hbad)]
      by_cases c1 : c.toNat < 48
      · obtain rfl := bad (by simp [readS, c1])
        have m1 : (c.toNat : Int) < 48 := by omega
        clear c1
        clear bad
        go_wp2_with (first | (refine Go.Proofs.YtldbaommeflooaaDoor.blk.wpList_store_blk rfl 43 (.tmp 2) (.tmp 41) rfl W.heap.size #[.int .i64 0, .int .i64 0] rfl rfl HR2.out szAct rfl (by simp [Value.oneCell']) ?_; intro w9 hb9 hc9; have HB9 := Lib.hid hb9; have HC9 := Lib.hid hc9; clear hb9 hc9))
        refine bodyPost_ret (results_row_tmp rfl _ _ W.heap.size 43 #[.int .i64 0, .int .i64 0] (0, 0) _ rfl HB9.out Tryd.underlying43 rfl szAct) rfl ?_
        exact ⟨rfl, HCW.out.into HC9.out (by simp)⟩
      by_cases c2 : 57 < c.toNat
      · obtain rfl := bad (by simp [readS, c2])
        have m1 : ¬ (c.toNat : Int) < 48 := by omega
        have m2 : (57 : Int) < (c.toNat : Int) := by omega
        clear c1 c2
        clear bad
        go_wp2_with (first | (refine Go.Proofs.YtldbaommeflooaaDoor.blk.wpList_store_blk rfl 43 (.tmp 2) (.tmp 41) rfl W.heap.size #[.int .i64 0, .int .i64 0] rfl rfl HR2.out szAct rfl (by simp [Value.oneCell']) ?_; intro w9 hb9 hc9; have HB9 := Lib.hid hb9; have HC9 := Lib.hid hc9; clear hb9 hc9))
        refine bodyPost_ret (results_row_tmp rfl _ _ W.heap.size 43 #[.int .i64 0, .int .i64 0] (0, 0) _ rfl HB9.out Tryd.underlying43 rfl szAct) rfl ?_
        exact ⟨rfl, HCW.out.into HC9.out (by simp)⟩
      by_cases c3 : 65536 < n
      · obtain rfl := bad (by simp [readS, c3])
        have m1 : ¬ (c.toNat : Int) < 48 := by omega
        have m2 : ¬ (57 : Int) < (c.toNat : Int) := by omega
        clear c1 c2
        clear bad
        go_wp2_with (first | (refine Go.Proofs.YtldbaommeflooaaDoor.blk.wpList_store_blk rfl 43 (.tmp 2) (.tmp 41) rfl W.heap.size #[.int .i64 0, .int .i64 0] rfl rfl HR2.out szAct rfl (by simp [Value.oneCell']) ?_; intro w9 hb9 hc9; have HB9 := Lib.hid hb9; have HC9 := Lib.hid hc9; clear hb9 hc9))
        refine bodyPost_ret (results_row_tmp rfl _ _ W.heap.size 43 #[.int .i64 0, .int .i64 0] (0, 0) _ rfl HB9.out Tryd.underlying43 rfl szAct) rfl ?_
        exact ⟨rfl, HCW.out.into HC9.out (by simp)⟩
      have m1 : ¬ (c.toNat : Int) < 48 := by omega
      have m2 : ¬ (57 : Int) < (c.toNat : Int) := by omega
      have HNX : Hid ((rest.take (j + 1)).foldl readS (some 0) = some (10 * n + ((c.toNat : Int) - 48))) := Lib.hid (by rw [HST.out]; simp [readS, c1, c2, c3])
      have HBN : Hid (0 ≤ 10 * n + ((c.toNat : Int) - 48) ∧ 10 * n + ((c.toNat : Int) - 48) ≤ 655369) := Lib.hid (by have := HN.out.2; omega)
      have k9 : IntKind.i64.wrap (10 * n) = 10 * n := by rw [IntKind.wrap_i64]; have := HN.out.2; omega
      have k10 : IntKind.u8.wrap ((c.toNat : Int) - 48) = (c.toNat : Int) - 48 := by rw [IntKind.wrap_u8]; omega
      have k11 : IntKind.i64.wrap ((c.toNat : Int) - 48) = (c.toNat : Int) - 48 := by rw [IntKind.wrap_i64]; omega
      have k12 : IntKind.i64.wrap (10 * n + ((c.toNat : Int) - 48)) = 10 * n + ((c.toNat : Int) - 48) := by rw [IntKind.wrap_i64]; have := HBN.out; omega
      clear c1 c2 bad HST
      go_wp2_with fail
      have hltj := HLT.out
      go_roundw
      case rel => exact ⟨j + 1, 10 * n + ((c.toNat : Int) - 48), by omega, by go_num, Lib.hid ⟨HNX.out, HBN.out⟩, Lib.hid (HJ.out.setCell (.inl (by simp)) _), Lib.hid (HB.out.set 1 _)⟩
      case measure => simp [intOf]; omega
    · obtain rfl : rest.length = j := by omega
      clear hlt hj
      have hn := HN.out.1
      rw [List.take_length] at hn
      have HRN : Hid ((if false && oneB ⟨2, n⟩ && decide (lineL ⟨2, n⟩ = s) then some ⟨2, n⟩ else none) = R) := Lib.hid (by rw [← HR.out, show readN rest = some n from hn])
      clear hn

      obtain rfl : none = R := by rw [← HRN.out]; rfl
      go_wp2_with (first | (refine Go.Proofs.YtldbaommeflooaaDoor.blk.wpList_store_blk rfl 43 (.tmp 2) (.tmp 64) rfl W.heap.size #[.int .i64 0, .int .i64 0] rfl rfl HR2.out szAct rfl (by simp [Value.oneCell']) ?_; intro w9 hb9 hc9; have HB9 := Lib.hid hb9; have HC9 := Lib.hid hc9; clear hb9 hc9))
      refine bodyPost_ret (results_row_tmp rfl _ _ W.heap.size 43 #[.int .i64 0, .int .i64 0] (0, 0) _ rfl HB9.out Tryd.underlying43 rfl szAct) rfl ?_
      exact ⟨rfl, HCW.out.into HC9.out (by simp)⟩
end Go.Proofs.YtldbaommeflooaaDoor.scr
