import Derived.Test.YtphfnjcboellhaaGreatDoorPlans
import Derived.Test.YtphfnjcboellhaaGreatDoorMemo
import Derived.BigQuiet
import Derived.Deep.CutBlock
import Derived.Deep.RegionWith
import Derived.Deep.QuietTactic
import Derived.Test.YtphfnjcboellhaaGreatDoorOpen
import Derived.Test.YtphfnjcboellhaaGreatDoorBlk
namespace Go.Proofs.YtphfnjcboellhaaGreatDoor.wv
open Go Go.RowKit kit mem
set_option maxRecDepth 20000
structure CV where
 (proc obj op : Int) (rv : Value) (code bg en : Int)
def CV.cells (c : CV) : List Value := [.int .i64 c.proc, .int .i64 c.obj, .int .i64 c.op, c.rv, .int .i64 c.code, .int .i64 c.bg, .int .i64 c.en]
def CV.val (c : CV) : Value := .agg #[.int .i64 c.proc, .int .i64 c.obj, .int .i64 c.op, c.rv, .int .i64 c.code, .int .i64 c.bg, .int .i64 c.en]
theorem szCall : (Tryz.prog.info? 45).map (·.size) = some 7 := by kernel_rfl
def cmpI (a b : Int) : Int := if a < b then -1 else if b < a then 1 else 0
theorem isNaN_any (a : Int) (W : World) : Calls Tryz.prog 59 #[.int .i64 a] W fun e W' => e = .returned (.bool false) /\ W = W' := by
 go_enter Tryz.func59, Tryz.ntmps59
 go_wp2
 go_ret
 exact ⟨by simp, rfl⟩
theorem Compare_any (a b : Int) (W : World) : Calls Tryz.prog 36 #[.int .i64 a, .int .i64 b] W fun e W' => e = .returned (.int .i64 (cmpI a b)) /\ W = W' := by
 unfold cmpI
 by_cases h1 : a < b
 · rw [if_pos h1]
   go_enter Tryz.func36, Tryz.ntmps36
   go_wp2_with (go_at_call 59; refine (isNaN_any _ _).mono ?_; rintro e w1 ⟨rfl, rfl⟩)
   go_ret
   exact ⟨rfl, rfl⟩
 · rw [if_neg h1]
   by_cases h2 : b < a
   · rw [if_pos h2]
     go_enter Tryz.func36, Tryz.ntmps36
     go_wp2_with (go_at_call 59; refine (isNaN_any _ _).mono ?_; rintro e w1 ⟨rfl, rfl⟩)
     go_ret
     exact ⟨rfl, rfl⟩
   · rw [if_neg h2]
     go_enter Tryz.func36, Tryz.ntmps36
     go_wp2_with (go_at_call 59; refine (isNaN_any _ _).mono ?_; rintro e w1 ⟨rfl, rfl⟩)
     go_ret
     exact ⟨rfl, rfl⟩
theorem Or_any (g : Nat) (a b : Int) (W : World) (h0 : W.cell? ⟨g, 0, none⟩ = some (.int .i64 a)) (h1 : W.cell? ⟨g, 1, none⟩ = some (.int .i64 b)) (ha : a ≠ 0) :
 Calls Tryz.prog 35 #[.slice (some ⟨g, 0, none⟩) 2 2] W fun e W' => e = .returned (.int .i64 a) /\ W = W' := by
 have hb : (a != 0) = true := by simpa using ha
 go_enter Tryz.func35, Tryz.ntmps35
 go_wp2
 go_loopw [8] (fun p wr => p = .int .i64 0 /\ W = wr) (fun _ _ => 0)
 case atStart => exact ⟨rfl, rfl⟩
 case round =>
  obtain ⟨rfl, rfl⟩ := hrel
  go_wp2
  go_ret
  exact ⟨rfl, rfl⟩
theorem cmpI_ne {a b : Int} (h : a ≠ b) : cmpI a b ≠ 0 := by
 unfold cmpI
 split
 · decide
 · split
   · decide
   · omega
set_option maxHeartbeats 4000000 in
theorem less_any (a b : CV) (ha : a.rv.oneCell' = true) (hb : b.rv.oneCell' = true) (hne : a.bg ≠ b.bg) (W : World) :
 Calls Tryz.prog 34 #[a.val, b.val] W fun e W' => e = .returned (.int .i64 (cmpI a.bg b.bg)) /\ Chg [] W W' := by
 obtain ⟨ap, ao, aop, arv, ac, abg, aen⟩ := a
 obtain ⟨bp, bo, bop, brv, bc, bbg, ben⟩ := b
 simp only at ha hb hne
 unfold CV.val
 have hz := cmpI_ne hne
 obtain ⟨z, hzz⟩ : ∃ z, cmpI abg bbg = z := ⟨_, rfl⟩
 obtain ⟨y, hyy⟩ : ∃ y, cmpI ap bp = y := ⟨_, rfl⟩
 have HC1 := hid (fun V => Compare_any abg bbg V)
 have HC2 := hid (fun V => Compare_any ap bp V)
 simp only [hzz] at HC1 hz ⊢
 simp only [hyy] at HC2
 have HZ := hid hz
 clear hz hzz hyy hne
 go_enter Tryz.func34, Tryz.ntmps34
 go_upto_region 1 with fail
 obtain ⟨W1, hW1⟩ : ∃ z, (W.alloc (.cells #[.int .i64 ap, .int .i64 ao, .int .i64 aop, arv, .int .i64 ac, .int .i64 abg, .int .i64 aen] 45)) = z := ⟨_, rfl⟩
 have hs1 : W1.heap.size = W.heap.size + 1 := by rw [<- hW1]; simp
 have hc1 : Chg [] W W1 := by rw [<- hW1]; exact (Chg.refl [] W).alloc _
 have hb1 : Blk W1 W.heap.size #[.int .i64 ap, .int .i64 ao, .int .i64 aop, arv, .int .i64 ac, .int .i64 abg, .int .i64 aen] 45 := by rw [<- hW1]; exact Blk.new W _ _
 rw [hW1, ← hs1]
 obtain ⟨W2, hW2⟩ : ∃ z, (W1.alloc (.cells #[.int .i64 bp, .int .i64 bo, .int .i64 bop, brv, .int .i64 bc, .int .i64 bbg, .int .i64 ben] 45)) = z := ⟨_, rfl⟩
 have hc2 : Chg [] W1 W2 := by rw [<- hW2]; exact (Chg.refl [] W1).alloc _
 have hb2 : Blk W2 W1.heap.size #[.int .i64 bp, .int .i64 bo, .int .i64 bop, brv, .int .i64 bc, .int .i64 bbg, .int .i64 ben] 45 := by rw [<- hW2]; exact Blk.new W1 _ _
 have hb1' := hb1.keep hc2 (by simp)
 have HC := hid (hc1.trans hc2)
 have a0 := hb1'.cell (o := 0) rfl
 have a5 := hb1'.cell (o := 5) rfl
 have b0 := hb2.cell (o := 0) rfl
 have b5 := hb2.cell (o := 5) rfl
 have FA := hid (fun (V : World) (h : Chg [] W2 V) => (⟨h.keep a0 (by simp), h.keep a5 (by simp), h.keep b0 (by simp), h.keep b5 (by simp)⟩ : _ /\ _ /\ _ /\ _))
 rw [hW2]
 clear hW1 hW2 hs1 hc1 hc2 hb1 hb2 hb1' a0 a5 b0 b5
 have hHeld : (fun V : World => Hid (Chg [] W2 V)) (World.drew W2) := hid (Chg.refl _ _).drew
 refine wp_region_plan (fun V : World => Hid (Chg [] W2 V)) [(0, true, some 5), (1, true, some 6), (2, true, some 7), (3, true, some 8), (5, true, some 10), (6, true, some 11), (7, true, some 12), (8, true, some 13), (4, false, some 9), (9, false, some 14), (10, false, some 15), (11, false, some 16), (12, true, some 4)] (by kernel_rfl) (by kernel_rfl) (by kernel_rfl) (by kernel_rfl) (fun d c a v w h => by cases d <;> exact h) hHeld ?_
 repeat (first
  | (refine planWp_read (v := ?_) rfl rfl ?_ ?_ ?_; rotate_left; (focus rfl); (focus (intro u hSw; (try dsimp only at hSw); obtain ⟨h1, h2, h3, h4⟩ := FA.out u hSw.out; go_simp; (try with_reducible rfl))); (try simp only [Act.put, sA, sB, sC])))
 refine planWp_do rfl rfl ?_ (fun K hK => ?_)
 focus rfl
 go_simp
 go_wp2_with (go_at_call 36; (with_reducible refine (HC1.out _).mono ?_); rintro e w' ⟨rfl, rfl⟩)
 refine hK.out _ _ ?_ (fun hHeld2 => ?_)
 focus exact hHeld
 clear hK K hHeld2
 try simp only [Act.put, sA, sB, sC]
 refine planWp_do rfl rfl ?_ (fun K hK => ?_)
 focus rfl
 go_simp
 go_wp2_with (go_at_call 36; (with_reducible refine (HC2.out _).mono ?_); rintro e w' ⟨rfl, rfl⟩)
 refine hK.out _ _ ?_ (fun hHeld2 => ?_)
 focus exact hHeld
 clear hK K hHeld2
 try simp only [Act.put, sA, sB, sC]
 refine planWp_do rfl rfl ?_ (fun K hK => ?_)
 focus rfl
 go_simp
 go_wp2_with fail
 obtain ⟨W3, hW3⟩ : ∃ z', (W2.alloc (.cells #[.int .i64 z, .int .i64 y] 3)).drew = z' := ⟨_, rfl⟩
 have hc3 : Chg [] W2 W3 := by rw [<- hW3]; exact ((Chg.refl [] W2).alloc _).drew
 have hb3 : Blk W3 W2.heap.size #[.int .i64 z, .int .i64 y] 3 := by rw [<- hW3]; exact Blk.new W2 _ _
 have HB3 := hid hb3
 have HC3 := hid hc3
 rw [hW3]
 clear hW3 hc3 hb3
 refine hK.out _ _ ?_ (fun hHeld2 => ?_)
 focus exact HC3
 clear hK K hHeld2
 try simp only [Act.put, sA, sB, sC]
 refine planWp_do rfl rfl ?_ (fun K hK => ?_)
 focus rfl
 go_simp
 go_wp2_with (go_at_call 35; refine (Or_any W2.heap.size z y W3 (HB3.out.cell rfl) (HB3.out.cell rfl) HZ.out).mono ?_; rintro e w' ⟨rfl, rfl⟩)
 refine hK.out _ _ ?_ (fun hHeld2 => ?_)
 focus exact HC3
 clear hK K hHeld2 hHeld
 try simp only [Act.put, sA, sB, sC]
 repeat (first
  | (refine planWp_read (v := ?_) rfl rfl ?_ ?_ ?_; rotate_left; (focus rfl); (focus (intro u hSw; go_simp; (try with_reducible rfl))); (try simp only [Act.put, sA, sB, sC])))
 refine planWp_nil ?_
 go_wp2
 go_ret
 exact ⟨rfl, HC.out.trans HC3.out⟩
structure Srt (W : World) (a : Option Addr) (c : Nat) (l : List CV) : Prop where
 rd : Reads W 7 (.slice a l.length c) l.length (l.flatMap CV.cells)
 one : ∀ x ∈ l, x.rv.oneCell' = true
 inc : ∀ (i j : Nat) (x y : CV), l[i]? = some x -> l[j]? = some y -> i < j -> x.bg < y.bg
 len : l.length <= 100000
theorem Srt.fresh {W W' : World} {a : Option Addr} {c : Nat} {l : List CV} (h : Srt W a c l) (k : Chg [] W W') : Srt W' a c l := ⟨h.rd.fresh k, h.one, h.inc, h.len⟩
theorem cmp_gt {a b : Int} (h : b < a) : cmpI a b = 1 := by unfold cmpI; rw [if_neg (by omega), if_pos h]
theorem Srt.cmp {W : World} {a : Option Addr} {c : Nat} {l : List CV} (h : Srt W a c l) {i j : Nat} {x y : CV} (hi : l[i]? = some x) (hj : l[j]? = some y) (hij : j < i) :
 Calls Tryz.prog 34 #[x.val, y.val] W fun e W' => e = .returned (.int .i64 1) /\ Chg [] W W' := by
 have h1 := h.inc j i y x hj hi hij
 have := less_any x y (h.one x (List.mem_of_getElem? hi)) (h.one y (List.mem_of_getElem? hj)) (by omega) W
 rwa [cmp_gt h1] at this
def Cells7 (V : World) (b p : Nat) (x : CV) : Prop := ((V.cell? ⟨b, p, none⟩ = some (.int .i64 x.proc) /\ V.cell? ⟨b, p + 1, none⟩ = some (.int .i64 x.obj) /\ V.cell? ⟨b, p + 2, none⟩ = some (.int .i64 x.op) /\ V.cell? ⟨b, p + 3, none⟩ = some x.rv) /\ V.cell? ⟨b, p + 4, none⟩ = some (.int .i64 x.code) /\ V.cell? ⟨b, p + 5, none⟩ = some (.int .i64 x.bg) /\ V.cell? ⟨b, p + 6, none⟩ = some (.int .i64 x.en))
theorem Srt.at {W : World} {a : Option Addr} {c n : Nat} {l : List CV} (h : Srt W a c l) (hn : l.length = n) : ∃ b o, (∀ i, i < n -> ∀ u, (Instr.indexAt 34 (.slice a n c) (.int .i64 (i : Int))).run Tryz.prog u = .ok (.pointer (some ⟨b, o + i * 7, none⟩)) u) ∧
 ∀ V, Chg [] W V -> ∀ i x, l[i]? = some x -> Cells7 V b (o + i * 7) x := by
 subst hn
 obtain ⟨b, o, hx, hc, -⟩ := reads_index (P := Tryz.prog) Tryz.underlying34 szCall h.rd
 refine ⟨b, o, hx, fun V hV i x hi => ?_⟩
 have g : ∀ f v, f < 7 -> x.cells[f]? = some v -> V.cell? ⟨b, o + (i * 7 + f), none⟩ = some v := fun f v hf hv => hV.keep (hc _ _ (by rw [flatMap_get CV.cells 7 (fun _ => rfl) l i f hf _ hi]; exact hv)) (by simp)
 have g0 := g 0 _ (by decide) rfl
 rw [Nat.add_zero] at g0
 refine ⟨⟨g0, ?_, ?_, ?_⟩, ?_, ?_, ?_⟩
 · exact g 1 _ (by decide) rfl
 · exact g 2 _ (by decide) rfl
 · exact g 3 _ (by decide) rfl
 · exact g 4 _ (by decide) rfl
 · exact g 5 _ (by decide) rfl
 · exact g 6 _ (by decide) rfl
set_option maxHeartbeats 4000000 in
theorem ins_any (a : Option Addr) (c : Nat) (l : List CV) (i0 b0 : Nat) (W : World) (h : Srt W a c l) (hi : i0 <= b0) (hb : b0 <= l.length) :
 Calls Tryz.prog 96 #[.slice a l.length c, .int .i64 (i0 : Int), .int .i64 (b0 : Int), .func (.func 34) #[] #[]] W fun e W' => e = .returned (.tuple #[]) /\ Chg [] W W' := by
 obtain ⟨n, hn⟩ : ∃ z, l.length = z := ⟨_, rfl⟩
 obtain ⟨b, o, hx, hc⟩ := h.at hn
 rw [hn] at hb ⊢
 have HL : Hid (n <= 100000 /\ l.length = n) := hid ⟨by rw [<- hn]; exact h.len, hn⟩
 have HX := hid hx
 have HC := hid hc
 have HCM := hid (fun V (hV : Chg [] W V) i j x y (hi : l[i]? = some x) (hj : l[j]? = some y) (hij : j < i) => (h.fresh hV).cmp hi hj hij)
 have HB := hid (⟨hi, hb⟩ : _ /\ _)
 have hw1 : IntKind.i64.wrap ((i0 : Int) + 1) = (i0 : Int) + 1 := by have := HL.out.1; rw [IntKind.wrap_i64]; omega
 clear h hx hc hn hi hb
 go_enter Tryz.func96, Tryz.ntmps96
 go_wp2
 go_loopw [8] (fun p wr => ∃ i : Nat, p = .int .i64 (i : Int) /\ Hid (i0 + 1 <= i /\ (i <= b0 \/ i = i0 + 1)) /\ Hid (Chg [] W wr)) (fun p _ => b0 + 1 - (intOf p).toNat)
 case atStart => exact ⟨i0 + 1, by simp, hid ⟨Nat.le_refl _, .inr rfl⟩, hid (Chg.refl _ _)⟩
 case round =>
  obtain ⟨i, rfl, HI, HW⟩ := hrel
  by_cases hib : i < b0
  · have HIB := hid hib
    have m1 : (i : Int) < (b0 : Int) := by omega
    have hin : i < n := by have := HB.out.2; omega
    obtain ⟨x, hxi⟩ : ∃ x, l[i]? = some x := ⟨_, List.getElem?_eq_getElem (by rw [HL.out.2]; exact hin)⟩
    obtain ⟨y, hyi⟩ : ∃ y, l[i - 1]? = some y := ⟨_, List.getElem?_eq_getElem (by rw [HL.out.2]; omega)⟩
    have ix1 := HX.out i hin
    have ix2 := HX.out (i - 1) (by omega)
    have HF := hid (fun V (hV : Chg [] W V) => (⟨HC.out V hV i x hxi, HC.out V hV (i - 1) y hyi⟩ : _ /\ _))
    have HCX := hid (fun V (hV : Chg [] W V) => HCM.out V hV i (i - 1) x y hxi hyi (by have := HI.out.1; omega))
    have hw2 : IntKind.i64.wrap ((i : Int) - 1) = ((i - 1 : Nat) : Int) := by have := HI.out.1; have := HL.out.1; rw [IntKind.wrap_i64]; omega
    have hw3 : IntKind.i64.wrap ((i : Int) + 1) = (i : Int) + 1 := by have := HL.out.1; rw [IntKind.wrap_i64]; omega
    have m2 : (i0 : Int) < (i : Int) := by have := HI.out.1; omega
    obtain ⟨x0, x1, x2, xv, x4, x5, x6⟩ := x
    obtain ⟨y0, y1, y2, yv, y4, y5, y6⟩ := y
    unfold Cells7 at HF
    simp only at HF
    unfold CV.val at HCX
    simp only at HCX
    clear hib hin hxi hyi
    go_wp2
    go_loopw [9] (fun p wr => p = .int .i64 (i : Int) /\ Hid (Chg [] W wr)) (fun _ _ => 0)
    case atStart => exact ⟨rfl, HW⟩
    case round =>
     obtain ⟨rfl, HW2⟩ := hrel
     go_upto_region 4 with fail
     have hHeld : (fun V : World => Hid (Chg [] W V)) (World.drew wr) := hid HW2.out.drew
     refine wp_region_plan (fun V : World => Hid (Chg [] W V)) [(0, true, some 18), (1, true, some 19), (2, true, some 20), (3, true, some 21), (4, true, some 22), (5, true, some 23), (6, true, some 24), (7, true, some 25), (8, true, some 26), (9, true, some 27), (10, true, some 28), (11, true, some 29), (12, true, some 30), (13, true, some 31), (14, false, some 32), (15, true, some 33), (16, true, some 34)] (by kernel_rfl) (by kernel_rfl) (by kernel_rfl) (by kernel_rfl) (fun d c a v w h => by cases d <;> exact h) hHeld ?_
     repeat (first
      | (refine planWp_read (v := ?_) rfl rfl ?_ ?_ ?_; rotate_left; (focus rfl); (focus (intro u hSw; (try dsimp only at hSw); obtain ⟨⟨⟨e0, e1, e2, e3⟩, e4, e5, e6⟩, ⟨f0, f1, f2, f3⟩, f4, f5, f6⟩ := HF.out u hSw.out; go_simp; (try with_reducible rfl))); (try simp only [Act.put, sA, sB, sC])))
     refine planWp_do rfl rfl ?_ (fun K hK => ?_)
     focus rfl
     go_simp
     go_wp2_with (go_at_call 34; refine (HCX.out _ hHeld.out).mono ?_; rintro e w3 ⟨rfl, hc3⟩; have HW3 := hid (hHeld.out.trans hc3); clear hc3)
     refine hK.out _ _ ?_ (fun hHeld2 => ?_)
     focus exact HW3
     clear hK K hHeld2 hHeld
     try simp only [Act.put, sA, sB, sC]
     repeat (first
      | (refine planWp_read (v := ?_) rfl rfl ?_ ?_ ?_; rotate_left; (focus rfl); (focus (intro u hSw; go_simp; (try with_reducible rfl))); (try simp only [Act.put, sA, sB, sC])))
     refine planWp_nil ?_
     go_wp2
     go_roundw
     case rel =>
      exact ⟨i + 1, by simp, hid ⟨by have := HI.out.1; omega, .inl HIB.out⟩, HW3⟩
     case measure =>
      have := HIB.out
      simp [intOf]
      omega
  · have m1 : ¬ (i : Int) < (b0 : Int) := by omega
    clear hib
    go_wp2
    go_end0
    exact ⟨rfl, HW.out⟩
set_option maxRecDepth 200000
theorem half_eq (i j : Nat) (h : i + j <= 1000000) : wrap64 (IntKind.u64.wrap (wrap64 ((i : Int) + (j : Int))) / 2) = (((i + j) / 2 : Nat) : Int) := by
 have e1 : wrap64 ((i : Int) + (j : Int)) = ((i + j : Nat) : Int) := by unfold wrap64; omega
 rw [e1, IntKind.wrap_u64]
 unfold wrap64
 omega
set_option maxHeartbeats 8000000 in
theorem sym_left (a : Option Addr) (c : Nat) (l : List CV) (a0 m0 b0 : Nat) (W : World) (h : Srt W a c l) (h1 : m0 = a0 + 1) (h2 : m0 < b0) (h3 : b0 <= l.length) :
 Calls Tryz.prog 97 #[.slice a l.length c, .int .i64 (a0 : Int), .int .i64 (m0 : Int), .int .i64 (b0 : Int), .func (.func 34) #[] #[]] W fun e W' => e = .returned (.tuple #[]) /\ Chg [] W W' := by
 obtain ⟨n, hn⟩ : ∃ z, l.length = z := ⟨_, rfl⟩
 obtain ⟨b, o, hx, hc⟩ := h.at hn
 rw [hn] at h3 ⊢
 have HL : Hid (n <= 100000 /\ l.length = n) := hid ⟨by rw [<- hn]; exact h.len, hn⟩
 have HX := hid hx
 have HC := hid hc
 have HCM := hid (fun V (hV : Chg [] W V) i j x y (hi : l[i]? = some x) (hj : l[j]? = some y) (hij : j < i) => (h.fresh hV).cmp hi hj hij)
 have HB := hid (⟨h1, h2, h3⟩ : _ /\ _ /\ _)
 have w1 : IntKind.i64.wrap ((m0 : Int) - (a0 : Int)) = 1 := by have := HL.out; rw [IntKind.wrap_i64]; omega
 have w2 : IntKind.i64.wrap ((m0 : Int) - 1) = (a0 : Int) := by have := HL.out; rw [IntKind.wrap_i64]; omega
 clear h hx hc hn h1 h2 h3
 go_enter Tryz.func97, Tryz.ntmps97
 go_upto_block 3 with fail
 go_loopw [10, 11] (fun q p wr => q = .int .i64 (m0 : Int) /\ ∃ j : Nat, p = .int .i64 (j : Int) /\ Hid (m0 <= j /\ j <= b0) /\ Hid (Chg [] W wr)) (fun _ p _ => (intOf p).toNat)
 case atStart => exact ⟨rfl, b0, rfl, hid ⟨by have := HB.out; omega, Nat.le_refl _⟩, hid (Chg.refl _ _)⟩
 case round =>
  obtain ⟨rfl, j, rfl, HJ, HW⟩ := hrel
  by_cases hjm : m0 < j
  · have HJM := hid hjm
    have m1 : (m0 : Int) < (j : Int) := by omega
    have hh := half_eq m0 j (by have := HL.out; have := HB.out; have := HJ.out; omega)
    obtain ⟨hf, hhf⟩ : ∃ z, (m0 + j) / 2 = z := ⟨_, rfl⟩
    rw [hhf] at hh
    have HH : Hid (m0 <= hf /\ hf < j) := hid (by omega)
    have hfn : hf < n := by have := HH.out; have := HJ.out; have := HB.out; omega
    have han : a0 < n := by have := HB.out; omega
    clear hjm hhf
    obtain ⟨x, hxi⟩ : ∃ x, l[hf]? = some x := ⟨_, List.getElem?_eq_getElem (by rw [HL.out.2]; exact hfn)⟩
    obtain ⟨y, hyi⟩ : ∃ y, l[a0]? = some y := ⟨_, List.getElem?_eq_getElem (by rw [HL.out.2]; exact han)⟩
    have ix1 := HX.out hf hfn
    have ix2 := HX.out a0 han
    have HF := hid (fun V (hV : Chg [] W V) => (⟨HC.out V hV _ x hxi, HC.out V hV _ y hyi⟩ : _ /\ _))
    have HCX := hid (fun V (hV : Chg [] W V) => HCM.out V hV _ _ x y hxi hyi (by have := HH.out; have := HB.out; omega))
    obtain ⟨x0, x1, x2, xv, x4, x5, x6⟩ := x
    obtain ⟨y0, y1, y2, yv, y4, y5, y6⟩ := y
    unfold Cells7 at HF
    simp only at HF
    unfold CV.val at HCX
    simp only at HCX
    clear hxi hyi
    clear hfn han
    go_upto_region 5 with fail
    have hHeld : (fun V : World => Hid (Chg [] W V)) (World.drew wr) := hid HW.out.drew
    refine wp_region_plan (fun V : World => Hid (Chg [] W V)) [(0, true, some 40), (1, true, some 41), (2, true, some 42), (3, true, some 43), (4, true, some 44), (5, true, some 45), (6, true, some 46), (7, true, some 47), (8, true, some 48), (9, false, some 49), (10, true, some 50)] (by kernel_rfl) (by kernel_rfl) (by kernel_rfl) (by kernel_rfl) (fun d c a v w h => by cases d <;> exact h) hHeld ?_
    repeat (first
     | (refine planWp_read (v := ?_) rfl rfl ?_ ?_ ?_; rotate_left; (focus rfl); (focus (intro u hSw; (try dsimp only at hSw); obtain ⟨⟨⟨e0, e1, e2, e3⟩, e4, e5, e6⟩, ⟨f0, f1, f2, f3⟩, f4, f5, f6⟩ := HF.out u hSw.out; go_simp; (try with_reducible rfl))); (try simp only [Act.put, sA, sB, sC])))
    refine planWp_do rfl rfl ?_ (fun K hK => ?_)
    focus rfl
    go_simp
    go_wp2_with (go_at_call 34; refine (HCX.out _ hHeld.out).mono ?_; rintro e w3 ⟨rfl, hc3⟩; have HW3 := hid (hHeld.out.trans hc3); clear hc3)
    refine hK.out _ _ ?_ (fun hHeld2 => ?_)
    focus exact HW3
    clear hK K hHeld2 hHeld
    try simp only [Act.put, sA, sB, sC]
    repeat (first
     | (refine planWp_read (v := ?_) rfl rfl ?_ ?_ ?_; rotate_left; (focus rfl); (focus (intro u hSw; go_simp; (try with_reducible rfl))); (try simp only [Act.put, sA, sB, sC])))
    refine planWp_nil ?_
    go_wp2
    go_roundw
    case rel =>
     exact ⟨rfl, hf, rfl, hid ⟨HH.out.1, by have := HH.out; have := HJ.out; omega⟩, HW3⟩
    case measure =>
     have := HH.out
     simp [intOf]
     omega
  · have m1 : ¬ (m0 : Int) < (j : Int) := by omega
    clear hjm
    go_upto_block 9 with fail
    clear m1
    go_loopw [13] (fun p wr => p = .int .i64 (a0 : Int) /\ Hid (Chg [] W wr)) (fun _ _ => 0)
    case atStart => exact ⟨rfl, HW⟩
    case round =>
     obtain ⟨rfl, HW2⟩ := hrel
     go_wp2
     refine bodyPost_ret (results_none rfl _ _ _) rfl ?_
     exact ⟨rfl, HW2.out⟩
set_option maxHeartbeats 8000000 in
theorem sym_right (a : Option Addr) (c : Nat) (l : List CV) (a0 m0 b0 : Nat) (W : World) (h : Srt W a c l) (h0 : a0 + 1 < m0) (h1 : b0 = m0 + 1) (h3 : b0 <= l.length) :
 Calls Tryz.prog 97 #[.slice a l.length c, .int .i64 (a0 : Int), .int .i64 (m0 : Int), .int .i64 (b0 : Int), .func (.func 34) #[] #[]] W fun e W' => e = .returned (.tuple #[]) /\ Chg [] W W' := by
 obtain ⟨n, hn⟩ : ∃ z, l.length = z := ⟨_, rfl⟩
 obtain ⟨b, o, hx, hc⟩ := h.at hn
 rw [hn] at h3 ⊢
 have HL : Hid (n <= 100000 /\ l.length = n) := hid ⟨by rw [<- hn]; exact h.len, hn⟩
 have HX := hid hx
 have HC := hid hc
 have HCM := hid (fun V (hV : Chg [] W V) i j x y (hi : l[i]? = some x) (hj : l[j]? = some y) (hij : j < i) => (h.fresh hV).cmp hi hj hij)
 have HB := hid (⟨h0, h1, h3⟩ : _ /\ _ /\ _)
 have w1 : IntKind.i64.wrap ((m0 : Int) - (a0 : Int)) = ((m0 - a0 : Nat) : Int) := by have := HL.out; rw [IntKind.wrap_i64]; omega
 have w1' : ((((m0 - a0 : Nat) : Int)) == 1) = false := by simp; omega
 have w2 : IntKind.i64.wrap ((b0 : Int) - (m0 : Int)) = 1 := by have := HL.out; rw [IntKind.wrap_i64]; omega
 clear h hx hc hn h0 h1 h3
 go_enter Tryz.func97, Tryz.ntmps97
 go_upto_block 15 with fail
 go_loopw [14, 15] (fun q p wr => ∃ j : Nat, q = .int .i64 (j : Int) /\ p = .int .i64 (m0 : Int) /\ Hid (a0 <= j /\ j <= m0) /\ Hid (Chg [] W wr)) (fun q _ _ => m0 - (intOf q).toNat)
 case atStart => exact ⟨a0, rfl, rfl, hid ⟨Nat.le_refl _, by have := HB.out; omega⟩, hid (Chg.refl _ _)⟩
 case round =>
  obtain ⟨j, rfl, rfl, HJ, HW⟩ := hrel
  by_cases hjm : j < m0
  · have HJM := hid hjm
    have m1 : (j : Int) < (m0 : Int) := by omega
    have hh := half_eq j m0 (by have := HL.out; have := HB.out; have := HJ.out; omega)
    obtain ⟨hf, hhf⟩ : ∃ z, (j + m0) / 2 = z := ⟨_, rfl⟩
    rw [hhf] at hh
    have HH : Hid (j <= hf /\ hf < m0) := hid (by omega)
    have hfn : hf < n := by have := HH.out; have := HJ.out; have := HB.out; omega
    have hmn : m0 < n := by have := HB.out; omega
    have hw3 : IntKind.i64.wrap ((hf : Int) + 1) = ((hf + 1 : Nat) : Int) := by have := HL.out; rw [IntKind.wrap_i64]; omega
    clear hjm hhf
    obtain ⟨x, hxi⟩ : ∃ x, l[m0]? = some x := ⟨_, List.getElem?_eq_getElem (by rw [HL.out.2]; exact hmn)⟩
    obtain ⟨y, hyi⟩ : ∃ y, l[hf]? = some y := ⟨_, List.getElem?_eq_getElem (by rw [HL.out.2]; exact hfn)⟩
    have ix1 := HX.out m0 hmn
    have ix2 := HX.out hf hfn
    have HF := hid (fun V (hV : Chg [] W V) => (⟨HC.out V hV _ x hxi, HC.out V hV _ y hyi⟩ : _ /\ _))
    have HCX := hid (fun V (hV : Chg [] W V) => HCM.out V hV _ _ x y hxi hyi (by have := HH.out; omega))
    obtain ⟨x0, x1, x2, xv, x4, x5, x6⟩ := x
    obtain ⟨y0, y1, y2, yv, y4, y5, y6⟩ := y
    unfold Cells7 at HF
    simp only at HF
    unfold CV.val at HCX
    simp only at HCX
    clear hxi hyi
    clear hfn hmn
    go_upto_region 17 with fail
    have hHeld : (fun V : World => Hid (Chg [] W V)) (World.drew wr) := hid HW.out.drew
    refine wp_region_plan (fun V : World => Hid (Chg [] W V)) [(0, true, some 92), (1, true, some 93), (2, true, some 94), (3, true, some 95), (4, true, some 96), (5, true, some 97), (6, true, some 98), (7, true, some 99), (8, true, some 100), (9, false, some 101), (10, true, some 102), (11, true, some 103)] (by kernel_rfl) (by kernel_rfl) (by kernel_rfl) (by kernel_rfl) (fun d c a v w h => by cases d <;> exact h) hHeld ?_
    repeat (first
     | (refine planWp_read (v := ?_) rfl rfl ?_ ?_ ?_; rotate_left; (focus rfl); (focus (intro u hSw; (try dsimp only at hSw); obtain ⟨⟨⟨e0, e1, e2, e3⟩, e4, e5, e6⟩, ⟨f0, f1, f2, f3⟩, f4, f5, f6⟩ := HF.out u hSw.out; go_simp; (try with_reducible rfl))); (try simp only [Act.put, sA, sB, sC])))
    refine planWp_do rfl rfl ?_ (fun K hK => ?_)
    focus rfl
    go_simp
    go_wp2_with (go_at_call 34; refine (HCX.out _ hHeld.out).mono ?_; rintro e w3 ⟨rfl, hc3⟩; have HW3 := hid (hHeld.out.trans hc3); clear hc3)
    refine hK.out _ _ ?_ (fun hHeld2 => ?_)
    focus exact HW3
    clear hK K hHeld2 hHeld
    try simp only [Act.put, sA, sB, sC]
    repeat (first
     | (refine planWp_read (v := ?_) rfl rfl ?_ ?_ ?_; rotate_left; (focus rfl); (focus (intro u hSw; go_simp; (try with_reducible rfl))); (try simp only [Act.put, sA, sB, sC])))
    refine planWp_nil ?_
    go_wp2
    go_roundw
    case rel =>
     first
      | exact ⟨hf + 1, rfl, rfl, hid ⟨by have := HH.out; have := HJ.out; omega, by have := HH.out; omega⟩, HW3⟩
      | ((repeat apply Exists.intro); refine ⟨?r2, rfl⟩; exact ⟨hf + 1, rfl, rfl, hid ⟨by have := HH.out; have := HJ.out; omega, by have := HH.out; omega⟩, HW3⟩)
    case measure =>
     have := HH.out
     simp [intOf]
     omega
  · obtain rfl : j = m0 := by have := HJ.out; omega
    have m1 : ¬ (j : Int) < (j : Int) := by omega
    clear hjm
    go_upto_block 21 with fail
    clear m1
    go_loopw [17] (fun p wr => p = .int .i64 (j : Int) /\ Hid (Chg [] W wr)) (fun _ _ => 0)
    case atStart => exact ⟨rfl, HW⟩
    case round =>
     obtain ⟨rfl, HW2⟩ := hrel
     go_wp2
     refine bodyPost_ret (results_none rfl _ _ _) rfl ?_
     exact ⟨rfl, HW2.out⟩
set_option maxHeartbeats 16000000 in
theorem sym_big (a : Option Addr) (c : Nat) (l : List CV) (a0 m0 b0 : Nat) (W : World) (h : Srt W a c l) (h0 : a0 + 1 < m0) (h1 : m0 + 1 < b0) (h3 : b0 <= l.length) (hm : (a0 + b0) / 2 < m0)
 (IH : ∀ V, Chg [] W V -> Calls Tryz.prog 97 #[.slice a l.length c, .int .i64 (((a0 + b0) / 2 : Nat) : Int), .int .i64 (m0 : Int), .int .i64 (b0 : Int), .func (.func 34) #[] #[]] V fun e W' => e = .returned (.tuple #[]) /\ Chg [] V W') :
 Calls Tryz.prog 97 #[.slice a l.length c, .int .i64 (a0 : Int), .int .i64 (m0 : Int), .int .i64 (b0 : Int), .func (.func 34) #[] #[]] W fun e W' => e = .returned (.tuple #[]) /\ Chg [] W W' := by
 obtain ⟨n, hn⟩ : ∃ z, l.length = z := ⟨_, rfl⟩
 obtain ⟨b, o, hx, hc⟩ := h.at hn
 rw [hn] at h3 IH ⊢
 have HL : Hid (n <= 100000 /\ l.length = n) := hid ⟨by rw [<- hn]; exact h.len, hn⟩
 have HX := hid hx
 have HC := hid hc
 have HCM := hid (fun V (hV : Chg [] W V) i j x y (hi : l[i]? = some x) (hj : l[j]? = some y) (hij : j < i) => (h.fresh hV).cmp hi hj hij)
 have hmid := half_eq a0 b0 (by have := HL.out; omega)
 obtain ⟨mid, hmd⟩ : ∃ z, (a0 + b0) / 2 = z := ⟨_, rfl⟩
 rw [hmd] at hmid hm IH
 have HB := hid (⟨h0, h1, h3, hm, (by omega : a0 <= mid /\ mid < b0 /\ 2 * mid <= a0 + b0 /\ a0 + b0 <= 2 * mid + 1)⟩ : _ /\ _ /\ _ /\ _ /\ _)
 have HIH := hid IH
 have w1 : IntKind.i64.wrap ((m0 : Int) - (a0 : Int)) = ((m0 - a0 : Nat) : Int) := by have := HL.out; rw [IntKind.wrap_i64]; omega
 have w1' : ((((m0 - a0 : Nat) : Int)) == 1) = false := by simp; omega
 have w2 : IntKind.i64.wrap ((b0 : Int) - (m0 : Int)) = ((b0 - m0 : Nat) : Int) := by have := HL.out; rw [IntKind.wrap_i64]; omega
 have w2' : ((((b0 - m0 : Nat) : Int)) == 1) = false := by simp; omega
 have hbnd := HB.out
 have hn5 := HL.out.1
 obtain ⟨N, hN⟩ : ∃ z, mid + m0 = z := ⟨_, rfl⟩
 obtain ⟨P, hP⟩ : ∃ z, mid + m0 - 1 = z := ⟨_, rfl⟩
 obtain ⟨S, hS⟩ : ∃ z, mid + m0 - b0 = z := ⟨_, rfl⟩
 have w3 : IntKind.i64.wrap ((mid : Int) + (m0 : Int)) = (N : Int) := by rw [IntKind.wrap_i64]; omega
 have w4 : IntKind.i64.wrap ((N : Int) - (b0 : Int)) = ((mid + m0 - b0 : Nat) : Int) \/ b0 > mid + m0 := by
  by_cases hh : b0 > mid + m0
  · exact .inr hh
  · left; rw [IntKind.wrap_i64]; omega
 have w5 : IntKind.i64.wrap ((N : Int) - 1) = (P : Int) := by rw [IntKind.wrap_i64]; omega
 have w6 : IntKind.i64.wrap ((N : Int) - (mid : Int)) = (m0 : Int) := by rw [IntKind.wrap_i64]; omega
 have m0' :  (mid : Int) < (m0 : Int) := by omega
 have HNP := hid (⟨hN, hP, hS⟩ : _ /\ _ /\ _)
 have w4' : IntKind.i64.wrap ((N : Int) - (b0 : Int)) = (S : Int) := by rcases w4 with w4 | w4 <;> omega
 clear h hx hc hn h0 h1 h3 hm IH hmd hbnd hn5 hN hP hS w4
 go_enter Tryz.func97, Tryz.ntmps97
 go_upto_block 33 with fail
 try rw [hmid]
 clear w1 w1' w2 w2' w3 w5 m0' hmid
 try clear w4'
 go_loopw [20, 21] (fun q p wr => ∃ s : Nat, q = .int .i64 (s : Int) /\ p = .int .i64 (mid : Int) /\ Hid (S <= s /\ s <= mid) /\ Hid (Chg [] W wr)) (fun q _ _ => mid - (intOf q).toNat)
 case atStart => exact ⟨S, rfl, rfl, hid ⟨Nat.le_refl _, by have := HB.out; have := HNP.out; omega⟩, hid (Chg.refl _ _)⟩
 case round =>
  obtain ⟨s, rfl, rfl, HJ, HW⟩ := hrel
  by_cases hjm : s < mid
  · have HJM := hid hjm
    have m1 : (s : Int) < (mid : Int) := by omega
    have hh := half_eq s mid (by have := HL.out; have := HB.out; have := HJ.out; omega)
    obtain ⟨hf, hhf⟩ : ∃ z, (s + mid) / 2 = z := ⟨_, rfl⟩
    rw [hhf] at hh
    have HH : Hid (s <= hf /\ hf < mid) := hid (by omega)
    obtain ⟨g, hgf⟩ : ∃ z, P - hf = z := ⟨_, rfl⟩
    have hidx : hf < n /\ g < n /\ hf < g /\ hf <= P := by have h1 := HH.out; have h2 := HJ.out; have h3 := HB.out; have h4 := HNP.out; omega
    have hfn : hf < n := hidx.1
    have hgn : g < n := hidx.2.1
    have HLT := hid hidx.2.2.1
    have hw3 : IntKind.i64.wrap ((P : Int) - (hf : Int)) = (g : Int) := by have h1 := hidx.2.2.2; have h2 := HL.out; have h3 := HNP.out; have h4 := HB.out; rw [IntKind.wrap_i64]; omega
    have hw4 : IntKind.i64.wrap ((hf : Int) + 1) = ((hf + 1 : Nat) : Int) := by have := HL.out; rw [IntKind.wrap_i64]; omega
    clear hjm hhf hgf hidx w6
    obtain ⟨x, hxi⟩ : ∃ x, l[g]? = some x := ⟨_, List.getElem?_eq_getElem (by rw [HL.out.2]; exact hgn)⟩
    obtain ⟨y, hyi⟩ : ∃ y, l[hf]? = some y := ⟨_, List.getElem?_eq_getElem (by rw [HL.out.2]; exact hfn)⟩
    have ix1 := HX.out g hgn
    have ix2 := HX.out hf hfn
    have HF := hid (fun V (hV : Chg [] W V) => (⟨HC.out V hV _ x hxi, HC.out V hV _ y hyi⟩ : _ /\ _))
    have HCX := hid (fun V (hV : Chg [] W V) => HCM.out V hV _ _ x y hxi hyi HLT.out)
    obtain ⟨x0, x1, x2, xv, x4, x5, x6⟩ := x
    obtain ⟨y0, y1, y2, yv, y4, y5, y6⟩ := y
    unfold Cells7 at HF
    simp only at HF
    unfold CV.val at HCX
    simp only at HCX
    clear hxi hyi
    clear hfn hgn
    go_upto_region 35 with fail
    have hHeld : (fun V : World => Hid (Chg [] W V)) (World.drew wr) := hid HW.out.drew
    refine wp_region_plan (fun V : World => Hid (Chg [] W V)) [(0, true, some 158), (1, true, some 159), (2, true, some 160), (3, true, some 161), (4, true, some 162), (5, true, some 163), (6, true, some 164), (7, true, some 165), (8, true, some 166), (9, true, some 167), (10, true, some 168), (11, false, some 169), (12, true, some 170), (13, true, some 171)] (by kernel_rfl) (by kernel_rfl) (by kernel_rfl) (by kernel_rfl) (fun d c a v w h => by cases d <;> exact h) hHeld ?_
    repeat (first
     | (refine planWp_read (v := ?_) rfl rfl ?_ ?_ ?_; rotate_left; (focus rfl); (focus (intro u hSw; (try dsimp only at hSw); obtain ⟨⟨⟨e0, e1, e2, e3⟩, e4, e5, e6⟩, ⟨f0, f1, f2, f3⟩, f4, f5, f6⟩ := HF.out u hSw.out; go_simp; (try with_reducible rfl))); (try simp only [Act.put, sA, sB, sC])))
    refine planWp_do rfl rfl ?_ (fun K hK => ?_)
    focus rfl
    go_simp
    go_wp2_with (go_at_call 34; refine (HCX.out _ hHeld.out).mono ?_; rintro e w3 ⟨rfl, hc3⟩; have HW3 := hid (hHeld.out.trans hc3); clear hc3)
    refine hK.out _ _ ?_ (fun hHeld2 => ?_)
    focus exact HW3
    clear hK K hHeld2 hHeld
    try simp only [Act.put, sA, sB, sC]
    repeat (first
     | (refine planWp_read (v := ?_) rfl rfl ?_ ?_ ?_; rotate_left; (focus rfl); (focus (intro u hSw; go_simp; (try with_reducible rfl))); (try simp only [Act.put, sA, sB, sC])))
    refine planWp_nil ?_
    go_wp2
    go_roundw
    case rel =>
     first
      | exact ⟨hf + 1, rfl, rfl, hid ⟨by have := HH.out; have := HJ.out; omega, by have := HH.out; omega⟩, HW3⟩
      | ((repeat apply Exists.intro); refine ⟨?r2, rfl⟩; exact ⟨hf + 1, rfl, rfl, hid ⟨by have := HH.out; have := HJ.out; omega, by have := HH.out; omega⟩, HW3⟩)
    case measure =>
     have := HH.out
     simp [intOf]
     omega
  · obtain rfl : s = mid := by have := HJ.out; omega
    have m1 : ¬ (s : Int) < (s : Int) := by omega
    clear hjm
    have v1 : (s : Int) < (m0 : Int) := by have := HB.out; omega
    have v2 : ¬ (m0 : Int) < (m0 : Int) := by omega
    have v3 : (a0 : Int) < (s : Int) := by have := HB.out; omega
    have v4 : (m0 : Int) < (b0 : Int) := by have := HB.out; omega
    go_wp2_with (go_at_call 97; refine (HIH.out _ HW.out).mono ?_; rintro e w9 ⟨rfl, hc9⟩; have HC9 := hid (HW.out.trans hc9); clear hc9)
    go_end0
    exact ⟨rfl, HC9.out⟩
set_option maxHeartbeats 16000000 in
theorem sym_small (a : Option Addr) (c : Nat) (l : List CV) (a0 m0 b0 : Nat) (W : World) (h : Srt W a c l) (h0 : a0 + 1 < m0) (h1 : m0 + 1 < b0) (h3 : b0 <= l.length) (hm : m0 <= (a0 + b0) / 2)
 (IH : m0 < (a0 + b0) / 2 -> ∀ V, Chg [] W V -> Calls Tryz.prog 97 #[.slice a l.length c, .int .i64 (a0 : Int), .int .i64 (m0 : Int), .int .i64 (((a0 + b0) / 2 : Nat) : Int), .func (.func 34) #[] #[]] V fun e W' => e = .returned (.tuple #[]) /\ Chg [] V W') :
 Calls Tryz.prog 97 #[.slice a l.length c, .int .i64 (a0 : Int), .int .i64 (m0 : Int), .int .i64 (b0 : Int), .func (.func 34) #[] #[]] W fun e W' => e = .returned (.tuple #[]) /\ Chg [] W W' := by
 obtain ⟨n, hn⟩ : ∃ z, l.length = z := ⟨_, rfl⟩
 obtain ⟨b, o, hx, hc⟩ := h.at hn
 rw [hn] at h3 IH ⊢
 have HL : Hid (n <= 100000 /\ l.length = n) := hid ⟨by rw [<- hn]; exact h.len, hn⟩
 have HX := hid hx
 have HC := hid hc
 have HCM := hid (fun V (hV : Chg [] W V) i j x y (hi : l[i]? = some x) (hj : l[j]? = some y) (hij : j < i) => (h.fresh hV).cmp hi hj hij)
 have hmid := half_eq a0 b0 (by have := HL.out; omega)
 obtain ⟨mid, hmd⟩ : ∃ z, (a0 + b0) / 2 = z := ⟨_, rfl⟩
 rw [hmd] at hmid hm IH
 have HB := hid (⟨h0, h1, h3, hm, (by omega : a0 <= mid /\ mid < b0 /\ 2 * mid <= a0 + b0 /\ a0 + b0 <= 2 * mid + 1)⟩ : _ /\ _ /\ _ /\ _ /\ _)
 have HIH := hid IH
 have w1 : IntKind.i64.wrap ((m0 : Int) - (a0 : Int)) = ((m0 - a0 : Nat) : Int) := by have := HL.out; rw [IntKind.wrap_i64]; omega
 have w1' : ((((m0 - a0 : Nat) : Int)) == 1) = false := by simp; omega
 have w2 : IntKind.i64.wrap ((b0 : Int) - (m0 : Int)) = ((b0 - m0 : Nat) : Int) := by have := HL.out; rw [IntKind.wrap_i64]; omega
 have w2' : ((((b0 - m0 : Nat) : Int)) == 1) = false := by simp; omega
 have hbnd := HB.out
 have hn5 := HL.out.1
 obtain ⟨N, hN⟩ : ∃ z, mid + m0 = z := ⟨_, rfl⟩
 obtain ⟨P, hP⟩ : ∃ z, mid + m0 - 1 = z := ⟨_, rfl⟩
 obtain ⟨S, hS⟩ : ∃ z, a0 = z := ⟨_, rfl⟩
 have w3 : IntKind.i64.wrap ((mid : Int) + (m0 : Int)) = (N : Int) := by rw [IntKind.wrap_i64]; omega
 have w4 : IntKind.i64.wrap ((N : Int) - (b0 : Int)) = ((mid + m0 - b0 : Nat) : Int) \/ b0 > mid + m0 := by
  by_cases hh : b0 > mid + m0
  · exact .inr hh
  · left; rw [IntKind.wrap_i64]; omega
 have w5 : IntKind.i64.wrap ((N : Int) - 1) = (P : Int) := by rw [IntKind.wrap_i64]; omega
 have w6 : IntKind.i64.wrap ((N : Int) - (m0 : Int)) = (mid : Int) := by rw [IntKind.wrap_i64]; omega
 have m0' : ¬ (mid : Int) < (m0 : Int) := by omega
 have HNP := hid (⟨hN, hP, hS⟩ : _ /\ _ /\ _)
 clear h hx hc hn h0 h1 h3 hm IH hmd hbnd hn5 hN hP hS w4
 go_enter Tryz.func97, Tryz.ntmps97
 go_upto_block 33 with fail
 try rw [hmid]
 clear w1 w1' w2 w2' w3 w5 m0' hmid
 try clear w4'
 go_loopw [20, 21] (fun q p wr => ∃ s : Nat, q = .int .i64 (s : Int) /\ p = .int .i64 (m0 : Int) /\ Hid (a0 <= s /\ s <= m0) /\ Hid (Chg [] W wr)) (fun q _ _ => m0 - (intOf q).toNat)
 case atStart => exact ⟨a0, rfl, rfl, hid ⟨Nat.le_refl _, by have := HB.out; have := HNP.out; omega⟩, hid (Chg.refl _ _)⟩
 case round =>
  obtain ⟨s, rfl, rfl, HJ, HW⟩ := hrel
  by_cases hjm : s < m0
  · have HJM := hid hjm
    have m1 : (s : Int) < (m0 : Int) := by omega
    have hh := half_eq s m0 (by have := HL.out; have := HB.out; have := HJ.out; omega)
    obtain ⟨hf, hhf⟩ : ∃ z, (s + m0) / 2 = z := ⟨_, rfl⟩
    rw [hhf] at hh
    have HH : Hid (s <= hf /\ hf < m0) := hid (by omega)
    obtain ⟨g, hgf⟩ : ∃ z, P - hf = z := ⟨_, rfl⟩
    have hidx : hf < n /\ g < n /\ hf < g /\ hf <= P := by have h1 := HH.out; have h2 := HJ.out; have h3 := HB.out; have h4 := HNP.out; omega
    have hfn : hf < n := hidx.1
    have hgn : g < n := hidx.2.1
    have HLT := hid hidx.2.2.1
    have hw3 : IntKind.i64.wrap ((P : Int) - (hf : Int)) = (g : Int) := by have h1 := hidx.2.2.2; have h2 := HL.out; have h3 := HNP.out; have h4 := HB.out; rw [IntKind.wrap_i64]; omega
    have hw4 : IntKind.i64.wrap ((hf : Int) + 1) = ((hf + 1 : Nat) : Int) := by have := HL.out; rw [IntKind.wrap_i64]; omega
    clear hjm hhf hgf hidx w6
    obtain ⟨x, hxi⟩ : ∃ x, l[g]? = some x := ⟨_, List.getElem?_eq_getElem (by rw [HL.out.2]; exact hgn)⟩
    obtain ⟨y, hyi⟩ : ∃ y, l[hf]? = some y := ⟨_, List.getElem?_eq_getElem (by rw [HL.out.2]; exact hfn)⟩
    have ix1 := HX.out g hgn
    have ix2 := HX.out hf hfn
    have HF := hid (fun V (hV : Chg [] W V) => (⟨HC.out V hV _ x hxi, HC.out V hV _ y hyi⟩ : _ /\ _))
    have HCX := hid (fun V (hV : Chg [] W V) => HCM.out V hV _ _ x y hxi hyi HLT.out)
    obtain ⟨x0, x1, x2, xv, x4, x5, x6⟩ := x
    obtain ⟨y0, y1, y2, yv, y4, y5, y6⟩ := y
    unfold Cells7 at HF
    simp only at HF
    unfold CV.val at HCX
    simp only at HCX
    clear hxi hyi
    clear hfn hgn
    go_upto_region 35 with fail
    have hHeld : (fun V : World => Hid (Chg [] W V)) (World.drew wr) := hid HW.out.drew
    refine wp_region_plan (fun V : World => Hid (Chg [] W V)) [(0, true, some 158), (1, true, some 159), (2, true, some 160), (3, true, some 161), (4, true, some 162), (5, true, some 163), (6, true, some 164), (7, true, some 165), (8, true, some 166), (9, true, some 167), (10, true, some 168), (11, false, some 169), (12, true, some 170), (13, true, some 171)] (by kernel_rfl) (by kernel_rfl) (by kernel_rfl) (by kernel_rfl) (fun d c a v w h => by cases d <;> exact h) hHeld ?_
    repeat (first
     | (refine planWp_read (v := ?_) rfl rfl ?_ ?_ ?_; rotate_left; (focus rfl); (focus (intro u hSw; (try dsimp only at hSw); obtain ⟨⟨⟨e0, e1, e2, e3⟩, e4, e5, e6⟩, ⟨f0, f1, f2, f3⟩, f4, f5, f6⟩ := HF.out u hSw.out; go_simp; (try with_reducible rfl))); (try simp only [Act.put, sA, sB, sC])))
    refine planWp_do rfl rfl ?_ (fun K hK => ?_)
    focus rfl
    go_simp
    go_wp2_with (go_at_call 34; refine (HCX.out _ hHeld.out).mono ?_; rintro e w3 ⟨rfl, hc3⟩; have HW3 := hid (hHeld.out.trans hc3); clear hc3)
    refine hK.out _ _ ?_ (fun hHeld2 => ?_)
    focus exact HW3
    clear hK K hHeld2 hHeld
    try simp only [Act.put, sA, sB, sC]
    repeat (first
     | (refine planWp_read (v := ?_) rfl rfl ?_ ?_ ?_; rotate_left; (focus rfl); (focus (intro u hSw; go_simp; (try with_reducible rfl))); (try simp only [Act.put, sA, sB, sC])))
    refine planWp_nil ?_
    go_wp2
    go_roundw
    case rel =>
     first
      | exact ⟨hf + 1, rfl, rfl, hid ⟨by have := HH.out; have := HJ.out; omega, by have := HH.out; omega⟩, HW3⟩
      | ((repeat apply Exists.intro); refine ⟨?r2, rfl⟩; exact ⟨hf + 1, rfl, rfl, hid ⟨by have := HH.out; have := HJ.out; omega, by have := HH.out; omega⟩, HW3⟩)
    case measure =>
     have := HH.out
     simp [intOf]
     omega
  · obtain rfl : s = m0 := by have := HJ.out; omega
    have m1 : ¬ (s : Int) < (s : Int) := by omega
    clear hjm
    have v1 : (a0 : Int) < (s : Int) := by have := HB.out; omega
    have v3 : ¬ (mid : Int) < (mid : Int) := by omega
    by_cases hlt : s < mid
    · have v2 : (s : Int) < (mid : Int) := by omega
      have HIH2 := hid (HIH.out hlt)
      clear hlt
      go_wp2_with (go_at_call 97; refine (HIH2.out _ HW.out).mono ?_; rintro e w9 ⟨rfl, hc9⟩; have HC9 := hid (HW.out.trans hc9); clear hc9)
      go_end0
      exact ⟨rfl, HC9.out⟩
    · have v2 : ¬ (s : Int) < (mid : Int) := by omega
      clear hlt
      go_wp2_with fail
      go_end0
      exact ⟨rfl, HW.out⟩
set_option maxRecDepth 20000
theorem sym_any (a : Option Addr) (c : Nat) (l : List CV) : ∀ (d a0 m0 b0 : Nat), b0 - a0 <= d -> a0 < m0 -> m0 < b0 -> b0 <= l.length -> ∀ W : World, Srt W a c l →
 Calls Tryz.prog 97 #[.slice a l.length c, .int .i64 (a0 : Int), .int .i64 (m0 : Int), .int .i64 (b0 : Int), .func (.func 34) #[] #[]] W fun e W' => e = .returned (.tuple #[]) /\ Chg [] W W'
 | 0, a0, m0, b0, hd, h1, h2, h3, W, h => by omega
 | d + 1, a0, m0, b0, hd, h1, h2, h3, W, h => by
  by_cases e1 : m0 = a0 + 1
  · exact sym_left a c l a0 m0 b0 W h e1 h2 h3
  · by_cases e2 : b0 = m0 + 1
    · exact sym_right a c l a0 m0 b0 W h (by omega) e2 h3
    · by_cases e3 : (a0 + b0) / 2 < m0
      · exact sym_big a c l a0 m0 b0 W h (by omega) (by omega) h3 e3 (fun V hV => sym_any a c l d ((a0 + b0) / 2) m0 b0 (by omega) e3 h2 h3 V (h.fresh hV))
      · exact sym_small a c l a0 m0 b0 W h (by omega) (by omega) h3 (by omega) (fun hm V hV => sym_any a c l d a0 m0 ((a0 + b0) / 2) (by omega) h1 hm (by omega) V (h.fresh hV))
set_option maxHeartbeats 8000000 in
theorem stable_any (a : Option Addr) (c : Nat) (l : List CV) (W : World) (h : Srt W a c l) :
 Calls Tryz.prog 58 #[.slice a l.length c, .int .i64 (l.length : Int), .func (.func 34) #[] #[]] W fun e W' => e = .returned (.tuple #[]) /\ Chg [] W W' := by
 have HSY := hid (fun V (hV : Chg [] W V) a0 m0 b0 (h1 : a0 < m0) (h2 : m0 < b0) (h3 : b0 <= l.length) => sym_any a c l (b0 - a0) a0 m0 b0 (Nat.le_refl _) h1 h2 h3 V (h.fresh hV))
 have HIN := hid (fun V (hV : Chg [] W V) i0 b0 (h1 : i0 <= b0) (h3 : b0 <= l.length) => ins_any a c l i0 b0 V (h.fresh hV) h1 h3)
 obtain ⟨n, hn⟩ : ∃ z, l.length = z := ⟨_, rfl⟩
 have HL : Hid (n <= 100000) := hid (by rw [<- hn]; exact h.len)
 rw [hn] at HSY HIN ⊢
 clear h hn
 go_enter Tryz.func58, Tryz.ntmps58
 go_upto_block 2 with fail
 go_loopw [7, 8] (fun q p wr => ∃ x : Nat, q = .int .i64 (x : Int) /\ p = .int .i64 ((x : Int) + 20) /\ Hid (x <= n) /\ Hid (Chg [] W wr)) (fun q _ _ => n + 1 - (intOf q).toNat)
 case atStart => exact ⟨0, rfl, rfl, hid (Nat.zero_le _), hid (Chg.refl _ _)⟩
 case round =>
  obtain ⟨x, rfl, rfl, HX, HW⟩ := hrel
  by_cases hxn : x + 20 <= n
  · have m1 : (x : Int) + 20 <= (n : Int) := by omega
    have hw : IntKind.i64.wrap ((x : Int) + 20 + 20) = (x : Int) + 20 + 20 := by have := HL.out; rw [IntKind.wrap_i64]; omega
    have HXN := hid hxn
    have HI2 := hid (HIN.out wr HW.out x (x + 20) (by omega) hxn)
    rw [show (((x + 20 : Nat)) : Int) = (x : Int) + 20 by omega] at HI2
    clear hxn
    go_wp2_with (go_at_call 96; refine HI2.out.mono ?_; rintro e w3 ⟨rfl, hc3⟩; have HW3 := hid (HW.out.trans hc3); clear hc3)
    go_roundw
    case rel => exact ⟨x + 20, rfl, rfl, hid HXN.out, HW3⟩
    case measure =>
     have := HXN.out
     simp [intOf]
     omega
  · have m1 : ¬ (x : Int) + 20 <= (n : Int) := by omega
    have HI2 := hid (HIN.out wr HW.out x n HX.out (Nat.le_refl _))
    clear hxn
    go_upto_block 7 with (go_at_call 96; refine HI2.out.mono ?_; rintro e w3 ⟨rfl, hc3⟩; have HW3 := hid (HW.out.trans hc3); clear hc3)
    clear m1
    go_loopw [6] (fun q wr => ∃ s : Nat, q = .int .i64 (s : Int) /\ Hid (1 <= s /\ s <= 200000) /\ Hid (Chg [] W wr)) (fun q _ => n - (intOf q).toNat)
    case atStart => exact ⟨20, rfl, hid (by omega), HW3⟩
    case round =>
     obtain ⟨s, rfl, HS, HW4⟩ := hrel
     by_cases hsn : s < n
     · have HSN := hid hsn
       have m2 : (s : Int) < (n : Int) := by omega
       have hw1 : IntKind.i64.wrap (2 * (s : Int)) = 2 * (s : Int) := by have := HS.out; rw [IntKind.wrap_i64]; omega
       have hw2 : IntKind.i64.wrap ((s : Int) * 2) = 2 * (s : Int) := by have := HS.out; rw [IntKind.wrap_i64]; omega
       clear hsn
       go_upto_block 9 with fail
       go_loopw [7, 8] (fun q p wr => ∃ x : Nat, q = .int .i64 (x : Int) /\ p = .int .i64 ((x : Int) + 2 * (s : Int)) /\ Hid (x <= n) /\ Hid (Chg [] W wr)) (fun q _ _ => n + 1 - (intOf q).toNat)
       case atStart => exact ⟨0, rfl, by simp, hid (Nat.zero_le _), HW4⟩
       case round =>
        obtain ⟨x, rfl, rfl, HX, HW5⟩ := hrel
        have ka : IntKind.i64.wrap ((x : Int) + (s : Int)) = (x : Int) + (s : Int) := by have := HL.out; have := HS.out; have := HX.out; rw [IntKind.wrap_i64]; omega
        by_cases hxn : x + 2 * s <= n
        · have m1 : (x : Int) + 2 * (s : Int) <= (n : Int) := by omega
          have kb : IntKind.i64.wrap ((x : Int) + 2 * (s : Int) + 2 * (s : Int)) = (x : Int) + 2 * (s : Int) + 2 * (s : Int) := by have := HL.out; have := HS.out; rw [IntKind.wrap_i64]; omega
          have HXN := hid hxn
          have HM2 := hid (HSY.out wr HW5.out x (x + s) (x + 2 * s) (by have := HS.out; omega) (by have := HS.out; omega) hxn)
          rw [show (((x + s : Nat)) : Int) = (x : Int) + (s : Int) by omega, show (((x + 2 * s : Nat)) : Int) = (x : Int) + 2 * (s : Int) by omega] at HM2
          clear hxn
          go_wp2_with (go_at_call 97; refine HM2.out.mono ?_; rintro e w6 ⟨rfl, hc6⟩; have HW6 := hid (HW5.out.trans hc6); clear hc6)
          go_roundw
          case rel => exact ⟨x + 2 * s, by simp, by simp, hid HXN.out, HW6⟩
          case measure =>
           have := HXN.out
           have := HS.out
           simp [intOf]
           omega
        · have m1 : ¬ (x : Int) + 2 * (s : Int) <= (n : Int) := by omega
          clear hxn
          by_cases hm : x + s < n
          · have m3 : (x : Int) + (s : Int) < (n : Int) := by omega
            have HM2 := hid (HSY.out wr HW5.out x (x + s) n (by have := HS.out; omega) hm (Nat.le_refl _))
            rw [show (((x + s : Nat)) : Int) = (x : Int) + (s : Int) by omega] at HM2
            clear hm
            go_wp2_with (go_at_call 97; refine HM2.out.mono ?_; rintro e w6 ⟨rfl, hc6⟩; have HW6 := hid (HW5.out.trans hc6); clear hc6)
            go_roundw
            case rel => exact ⟨2 * s, by simp, hid (by have := HS.out; have := HSN.out; have := HL.out; omega), HW6⟩
            case measure =>
             have := HSN.out
             have := HS.out
             simp [intOf]
             omega
          · have m3 : ¬ (x : Int) + (s : Int) < (n : Int) := by omega
            clear hm
            go_wp2
            go_roundw
            case rel => exact ⟨2 * s, by simp, hid (by have := HS.out; have := HSN.out; have := HL.out; omega), HW5⟩
            case measure =>
             have := HSN.out
             have := HS.out
             simp [intOf]
             omega
     · have m2 : ¬ (s : Int) < (n : Int) := by omega
       clear hsn
       go_wp2
       go_end0
       exact ⟨rfl, HW4.out⟩
theorem sort_any (a : Option Addr) (c : Nat) (l : List CV) (W : World) (h : Srt W a c l) :
 Calls Tryz.prog 33 #[.slice a l.length c, .func (.func 34) #[] #[]] W fun e W' => e = .returned (.tuple #[]) /\ Chg [] W W' := by
 have HS := hid (stable_any a c l W h)
 clear h
 go_enter Tryz.func33, Tryz.ntmps33
 go_wp2_with (go_at_call 58; refine HS.out.mono ?_; rintro e w3 ⟨rfl, hc3⟩; have HW3 := hid hc3; clear hc3)
 go_end0
 exact ⟨rfl, HW3.out⟩
theorem own_type {w : World} {B s n : Nat} {T : TypeId} {v : Value} {xs : List Value} (h : w.ownsRow B T s v n xs) {b : Nat} {cs : Array Value} {T' : TypeId} (hb : Blk w b cs T') (hT : T ≠ T') : ∀ y, v.ownBlock = some y -> y ≠ b := by
 intro y hy he
 subst he
 rcases h.2 with ⟨rfl, _⟩ | ⟨g, cap, cur, rfl, hB, hg, h4⟩
 · simp [Value.ownBlock] at hy
 · simp [Value.ownBlock] at hy
   subst hy
   unfold Blk at hb
   rw [hg] at hb
   simp at hb
   exact hT hb.2
theorem own_type2 {w : World} {B s n : Nat} {T : TypeId} {v : Value} {xs : List Value} (h : w.ownsRow B T s v n xs) {B' s' n' : Nat} {T' : TypeId} {v' : Value} {xs' : List Value} (h' : w.ownsRow B' T' s' v' n' xs') (hT : T ≠ T') : ∀ y, v.ownBlock = some y -> v'.ownBlock ≠ some y := by
 intro y hy hy'
 rcases h'.2 with ⟨rfl, _⟩ | ⟨g, cap, cur, rfl, hB, hg, h4⟩
 · simp [Value.ownBlock] at hy'
 · simp [Value.ownBlock] at hy'
   exact own_type (cs := cur) h (show Blk w y cur T' by subst hy'; exact hg) hT y hy rfl
theorem own_open {w : World} {B s n : Nat} {T : TypeId} {v : Value} {xs : List Value} (h : w.ownsRow B T s v n xs) : ∃ a c, v = .slice a n c := by
 rcases h.2 with ⟨rfl, h0⟩ | ⟨g, cap, cur, rfl, _⟩
 · exact ⟨none, 0, by rw [h0]⟩
 · exact ⟨_, _, rfl⟩
structure Cl where
 (proc obj op : Int) (wds : List Int) (code bg en : Int)
def Cl.cv (c : Cl) (rv : Value) : CV := ⟨c.proc, c.obj, c.op, rv, c.code, c.bg, c.en⟩
def cvs (l : List Cl) (rvs : List Value) : List CV := List.zipWith Cl.cv l rvs
theorem cvs_len {l : List Cl} {rvs : List Value} (h : rvs.length = l.length) : (cvs l rvs).length = l.length := by
 unfold cvs; rw [List.length_zipWith, h, Nat.min_self]
theorem cvs_get {l : List Cl} {rvs : List Value} {k : Nat} {c : Cl} {r : Value} (h1 : l[k]? = some c) (h2 : rvs[k]? = some r) : (cvs l rvs)[k]? = some (c.cv r) := by
 unfold cvs; rw [List.getElem?_zipWith, h1, h2]
theorem cvs_snoc {l : List Cl} {rvs : List Value} (h : rvs.length = l.length) (c : Cl) (r : Value) : cvs (l ++ [c]) (rvs ++ [r]) = cvs l rvs ++ [c.cv r] := by
 unfold cvs; rw [List.zipWith_append h.symm]; rfl
structure CallsR (W : World) (v : Value) (l : List Cl) (rvs : List Value) : Prop where
 len : rvs.length = l.length
 rd : Reads W 7 v l.length ((cvs l rvs).flatMap CV.cells)
 recs : ∀ (k : Nat) (c : Cl) (r : Value), l[k]? = some c -> rvs[k]? = some r -> ReadsW W r c.wds
theorem CallsR.fresh {W W' : World} {v : Value} {l : List Cl} {rvs : List Value} (h : CallsR W v l rvs) (k : Chg [] W W') : CallsR W' v l rvs := ⟨h.len, h.rd.fresh k, fun i c r h1 h2 => (h.recs i c r h1 h2).chg k⟩
theorem infoCall : (Tryz.prog.info? 45).map (fun i => (i.zero, i.size, i.bytes)) = some (some (.agg #[.int .i64 0, .int .i64 0, .int .i64 0, .slice none 0 0, .int .i64 0, .int .i64 0, .int .i64 0]), 7, 72) := by kernel_rfl
theorem results_row_one {P : Program} {fn : Func} {p : Tmp} {ty : TypeId} (h : fn.results = #[.cell p ty]) (tmps : Array Value) (w : World) (g : Nat) (t : TypeId) (cs : Array Value) (fr : Nat × Nat) (d : TypeDesc)
 (hp : tmps.getD p undef = .pointer (some ⟨g, 0, none⟩)) (hg : w.heap[g]? = some (.cells cs t fr))
 (hu : P.underlying ty = some d) (hd : (match d with | .struct _ | .array _ _ => true | _ => false) = true) (hi : (P.info? ty).map (·.size) = some cs.size) :
 (results fn tmps).run P w = .ok (.agg cs) w := by
 have hp' : tmps[p]?.getD undef = .pointer (some ⟨g, 0, none⟩) := by simpa using hp
 simp [results, h, hp', asAddr, run_loadVar_row w g t ty cs fr d hg hu hd hi]
set_option maxHeartbeats 2000000 in
theorem own_any (p o op : Int) (rv : Value) (rec : List Int) (cd bg en : Int) (W : World) (h : ReadsW W rv rec) (hl : rec.length <= 1000000) :
 Calls Tryz.prog 57 #[.agg #[.int .i64 p, .int .i64 o, .int .i64 op, rv, .int .i64 cd, .int .i64 bg, .int .i64 en]] W fun e W' => ∃ rv', e = .returned (.agg #[.int .i64 p, .int .i64 o, .int .i64 op, rv', .int .i64 cd, .int .i64 bg, .int .i64 en]) /\ OwnW W' W.heap.size rv' rec /\ Chg [] W W' := by
 obtain ⟨W1, hW1⟩ : ∃ z, W.alloc (.cells #[.int .i64 p, .int .i64 o, .int .i64 op, rv, .int .i64 cd, .int .i64 bg, .int .i64 en] 45) = z := ⟨_, rfl⟩
 have hs1 : W1.heap.size = W.heap.size + 1 := by rw [<- hW1]; simp
 have hc1 : Chg [] W W1 := by rw [<- hW1]; exact (Chg.refl [] W).alloc _
 have hb1 : Blk W1 W.heap.size #[.int .i64 p, .int .i64 o, .int .i64 op, rv, .int .i64 cd, .int .i64 bg, .int .i64 en] 45 := by rw [<- hW1]; exact Blk.new W _ _
 obtain ⟨W2, hW2⟩ : ∃ z, W1.alloc (.cells #[.int .i64 0, .int .i64 0, .int .i64 0, .slice none 0 0, .int .i64 0, .int .i64 0, .int .i64 0] 45) = z := ⟨_, rfl⟩
 have hc2 : Chg [] W1 W2 := by rw [<- hW2]; exact (Chg.refl [] W1).alloc _
 have hb2 : Blk W2 W1.heap.size #[.int .i64 0, .int .i64 0, .int .i64 0, .slice none 0 0, .int .i64 0, .int .i64 0, .int .i64 0] 45 := by rw [<- hW2]; exact Blk.new W1 _ _
 have HB1 := hid (hb1.keep hc2 (by simp))
 have HB2 := hid hb2
 have HC2 := hid (hc1.trans hc2)
 have HS1 := hid hs1
 have c3 := HB1.out.cell (o := 3) rfl
 have HCL := hid (Clone_words rv rec W2 (h.chg HC2.out) hl)
 obtain ⟨ra0, rc0, rfl, _⟩ := reads_slice h.1
 clear hs1 hc1 hb1 hc2 hb2 h hl
 go_enter Tryz.func57, Tryz.ntmps57
 go_upto_region 2 with (go_at_call 61; (try rw [hW1]); (try rw [hW2]); refine HCL.out.mono ?_; rintro e w3 ⟨rv', rfl, ho3, hc3⟩; obtain ⟨ra3, rc3, rfl⟩ := own_open ho3; have HO3 := hid ho3; have HC3 := hid hc3; have g3 := (HB1.out.keep hc3 (by simp)).cell (o := 3) rfl; have f3 := (HB1.out.keep hc3 (by simp)).free 3; clear ho3 hc3)
 obtain ⟨w4, hw4⟩ : ∃ z, w3.setCell ⟨W.heap.size, 3, none⟩ (.slice ra3 rec.length rc3) = z := ⟨_, rfl⟩
 have hb4 : Blk w4 W.heap.size #[.int .i64 p, .int .i64 o, .int .i64 op, .slice ra3 rec.length rc3, .int .i64 cd, .int .i64 bg, .int .i64 en] 45 := by rw [<- hw4]; exact (HB1.out.keep HC3.out (by simp)).set 3 _
 have hc4 : Chg [W.heap.size] w3 w4 := by rw [<- hw4]; exact (Chg.refl _ _).setCell (.inl (by simp)) _
 have HB4 : Hid (Blk w4 W1.heap.size _ _) := hid ((HB2.out.keep HC3.out (by simp)).keep hc4 (fun hm => by have := HS1.out; have := List.mem_singleton.1 hm; omega))
 have HO4 := hid (mem.own_chg HO3.out hc4 (fun y hy hm => by have h1 := (World.ownsRow.lt HO3.out y hy).1; have h2 := HC2.out.size; have := List.mem_singleton.1 hm; have h3 := HB1.out.lt; omega))
 have HC4 : Hid (Chg [] W w4) := hid ((HC2.out.trans HC3.out).into hc4 (fun y hy => .inr (by rw [List.mem_singleton.1 hy]; exact Nat.le_refl _)))
 have d0 := hb4.cell (o := 0) rfl
 have d1 := hb4.cell (o := 1) rfl
 have d2 := hb4.cell (o := 2) rfl
 have d3 := hb4.cell (o := 3) rfl
 have d4 := hb4.cell (o := 4) rfl
 have d5 := hb4.cell (o := 5) rfl
 have d6 := hb4.cell (o := 6) rfl
 rw [hw4]
 clear hw4 hb4 hc4
 go_wp2_with (refine blk.wpList_store_blk rfl 45 (.tmp 2) (.tmp 7) rfl W1.heap.size #[.int .i64 p, .int .i64 o, .int .i64 op, .slice ra3 rec.length rc3, .int .i64 cd, .int .i64 bg, .int .i64 en] rfl rfl HB4.out szCall rfl (by simp [Value.oneCell']) ?_; intro w9 hb9 hc9; have HB9 := hid hb9; have HC9 := hid hc9; clear hb9 hc9)
 refine bodyPost_ret (results_row_one rfl _ _ W1.heap.size 45 _ (0, 0) _ rfl HB9.out Tryz.underlying45 rfl szCall) rfl ?_
 refine ⟨_, rfl, ?_, HC4.out.into HC9.out (fun y hy => .inr (by rw [List.mem_singleton.1 hy]; have := HS1.out; omega))⟩
 exact mem.own_base (mem.own_chg HO4.out HC9.out (fun y hy hm => by have h1 := (World.ownsRow.lt HO4.out y hy).1; have h3 := HB2.out.lt; have := List.mem_singleton.1 hm; omega)) HC2.out.size
theorem keepAll_any (p o op : Int) (rv : Value) (cd bg en : Int) (hr : rv.oneCell' = true) (W : World) :
 Calls Tryz.prog 32 #[.agg #[.int .i64 p, .int .i64 o, .int .i64 op, rv, .int .i64 cd, .int .i64 bg, .int .i64 en]] W fun e W' => e = .returned (.bool true) /\ Chg [] W W' := by
 go_enter Tryz.func32, Tryz.ntmps32
 go_wp2
 go_ret
 exact ⟨rfl, (Chg.refl [] W).alloc _⟩
theorem call_cells (w : World) (p o op : Int) (rv : Value) (cd bg en : Int) : ∀ (j : Nat) u, (CV.cells ⟨p, o, op, rv, cd, bg, en⟩)[j]? = some u -> (w.alloc (.cells #[.int .i64 p, .int .i64 o, .int .i64 op, rv, .int .i64 cd, .int .i64 bg, .int .i64 en] 45)).cell? ((⟨w.heap.size, 0, none⟩ : Addr).add j) = some u := fun j u hj => by
 rw [kit.add_plain, Nat.zero_add]
 exact (Blk.new w _ _).cell (by rw [<- Array.getElem?_toList]; exact hj)
set_option maxHeartbeats 4000000 in
theorem pick_any (v : Value) (l : List Cl) (rvs : List Value) (W : World) (h : CallsR W v l rvs) (hl : l.length <= 100000) (hw : ∀ c ∈ l, c.wds.length <= 1000000) :
 Calls Tryz.prog 31 #[v, .func (.func 32) #[] #[]] W fun e W' => ∃ a c rvs', e = .returned (.slice a l.length c) /\ CallsR W' (.slice a l.length c) l rvs' /\ Chg [] W W' := by
 obtain ⟨n, hn⟩ : ∃ z, l.length = z := ⟨_, rfl⟩
 have hrd := h.rd
 obtain ⟨va, vc, rfl⟩ : ∃ a c, v = .slice a l.length c := by
  obtain ⟨a, c, e, _⟩ := reads_slice hrd; exact ⟨a, c, e⟩
 obtain ⟨b, o, hx, hc, -⟩ := reads_index (P := Tryz.prog) Tryz.underlying34 szCall hrd
 rw [hn] at hx hl ⊢
 have HX := hid hx
 have HCC := hid hc
 have HN := hid (⟨hn, hl⟩ : _ /\ _)
 have HR := hid (⟨h.len, h.recs, hw⟩ : _ /\ _ /\ _)
 clear hx hc hn hl hrd h hw
 go_enter Tryz.func31, Tryz.ntmps31
 go_upto_block 3 with fail
 go_loopw [5, 10] (fun ov p wr => ∃ (j : Nat) (oa : Option Addr) (oc : Nat) (rvs' : List Value), Hid (j <= n /\ rvs'.length = j) /\ ov = .slice oa j oc /\ p = .int .i64 (j : Int) /\ Hid (wr.ownsRow W.heap.size 45 7 (.slice oa j oc) j ((cvs (l.take j) rvs').flatMap CV.cells)) /\ Hid (∀ (k : Nat) (c : Cl) (r : Value), (l.take j)[k]? = some c -> rvs'[k]? = some r -> OwnW wr W.heap.size r c.wds /\ ∀ z ∈ c.wds, (Lit.int .u32 z).wf = true) /\ Hid (Chg [] W wr)) (fun _ p _ => n - (intOf p).toNat)
 case atStart => exact ⟨0, none, 0, [], hid ⟨Nat.zero_le _, rfl⟩, rfl, rfl, hid ⟨rfl, .inl ⟨rfl, rfl⟩⟩, hid (fun k c r h1 h2 => by simp at h2), hid (Chg.refl _ _)⟩
 case round =>
  obtain ⟨j, oa, oc, rvs', HJ, rfl, rfl, HO, HRS, HW⟩ := hrel
  by_cases hjn : j < n
  · have HJN := hid hjn
    obtain ⟨c, hcj⟩ : ∃ c, l[j]? = some c := ⟨_, List.getElem?_eq_getElem (by rw [HN.out.1]; exact hjn)⟩
    obtain ⟨r, hrj⟩ : ∃ r, rvs[j]? = some r := ⟨_, List.getElem?_eq_getElem (by rw [HR.out.1, HN.out.1]; exact hjn)⟩
    have hrr := HR.out.2.1 j c r hcj hrj
    have hcv := cvs_get hcj hrj
    have hlen := HR.out.2.2 c (List.mem_of_getElem? hcj)
    have ix := HX.out j hjn
    have hg : ∀ f v, f < 7 -> (c.cv r).cells[f]? = some v -> wr.cell? ⟨b, o + (j * 7 + f), none⟩ = some v := fun f v hf hv => HW.out.keep (HCC.out _ _ (by rw [flatMap_get CV.cells 7 (fun _ => rfl) _ j f hf _ hcv]; exact hv)) (by simp)
    have g0 := hg 0 _ (by decide) rfl
    have g1 := hg 1 _ (by decide) rfl
    have g2 := hg 2 _ (by decide) rfl
    have g3 := hg 3 _ (by decide) rfl
    have g4 := hg 4 _ (by decide) rfl
    have g5 := hg 5 _ (by decide) rfl
    have g6 := hg 6 _ (by decide) rfl
    simp only [Nat.add_zero, ← Nat.add_assoc, Cl.cv] at g0 g1 g2 g3 g4 g5 g6
    have HCJ := hid hcj
    obtain ⟨cp, co, cop, wds, ccd, cbg, cen⟩ := c
    simp only at g0 g1 g2 g3 g4 g5 g6 hrr hlen
    obtain ⟨ra0, rc0, rfl, _⟩ := reads_slice hrr.1
    obtain ⟨wa, hwa⟩ : ∃ z, wr.alloc (.cells #[.int .i64 cp, .int .i64 co, .int .i64 cop, .slice ra0 wds.length rc0, .int .i64 ccd, .int .i64 cbg, .int .i64 cen] 45) = z := ⟨_, rfl⟩
    have hca : Chg [] wr wa := by rw [<- hwa]; exact (Chg.refl _ wr).alloc _
    have hba : Blk wa wr.heap.size #[.int .i64 cp, .int .i64 co, .int .i64 cop, .slice ra0 wds.length rc0, .int .i64 ccd, .int .i64 cbg, .int .i64 cen] 45 := by rw [<- hwa]; exact Blk.new wr _ _
    have HBA := hid hba
    have HCA := hid hca
    have HRR := hid hrr
    have z0 := hba.cell (o := 0) rfl
    have z1 := hba.cell (o := 1) rfl
    have z2 := hba.cell (o := 2) rfl
    have z3 := hba.cell (o := 3) rfl
    have z4 := hba.cell (o := 4) rfl
    have z5 := hba.cell (o := 5) rfl
    have z6 := hba.cell (o := 6) rfl
    have HLN := hid hlen
    have m1 : (j : Int) < (n : Int) := by omega
    have h63 : ¬ (j : Int) + 1 > 9223372036854775807 := by have := HN.out.2; omega
    have HBB : Hid (j + 1 <= maxLen /\ (j + 1) * 72 <= 140737488355328) := hid (by have := HN.out.2; unfold maxLen; omega)
    have HSZ : Hid (W.heap.size <= wr.heap.size) := hid HW.out.size
    obtain ⟨i0, hi0, hz0, hz1, hz2⟩ := info_parts infoCall
    clear hjn hcj hrj hrr hcv hlen hg hca hba
    go_wp2_with (first
     | (go_at_call 32; refine (keepAll_any cp co cop (.slice ra0 wds.length rc0) ccd cbg cen rfl _).mono ?_; rintro e w3 ⟨rfl, hc3⟩; have HC3 := hid (HCA.out.trans hc3); have hbk := HBA.out.keep hc3 (by simp); have y0 := hbk.cell (o := 0) rfl; have y1 := hbk.cell (o := 1) rfl; have y2 := hbk.cell (o := 2) rfl; have y3 := hbk.cell (o := 3) rfl; have y4 := hbk.cell (o := 4) rfl; have y5 := hbk.cell (o := 5) rfl; have y6 := hbk.cell (o := 6) rfl; clear hc3 hbk)
     | (go_at_call 57; refine (own_any cp co cop (.slice ra0 wds.length rc0) wds ccd cbg cen w3 (HRR.out.chg (HW.out.trans HC3.out)) HLN.out).mono ?_; rintro e w4 ⟨rv4, rfl, ho4, hc4⟩; obtain ⟨ra4, rc4, rfl⟩ := own_open ho4; have HO4 := hid ho4; have HC4 := hid (HC3.out.trans hc4); have hcc := call_cells w4 cp co cop (.slice ra4 wds.length rc4) ccd cbg cen; have hOA := mem.own_chg HO.out (HC4.out.alloc (.cells #[.int .i64 cp, .int .i64 co, .int .i64 cop, .slice ra4 wds.length rc4, .int .i64 ccd, .int .i64 cbg, .int .i64 cen] 45)) (by simp); have hb3 : W.heap.size <= (w4.alloc (.cells #[.int .i64 cp, .int .i64 co, .int .i64 cop, .slice ra4 wds.length rc4, .int .i64 ccd, .int .i64 cbg, .int .i64 cen] 45)).heap.size := (by rw [World.size_alloc]; have h1 := HSZ.out; have h2 := HC4.out.size; omega); clear ho4 hc4)
     | (at_builtin; refine wpList_append_own_at _ rfl (.tmp 17) (.tmp 20) 34 rfl W.heap.size 45 i0 (.agg #[.int .i64 0, .int .i64 0, .int .i64 0, .slice none 0 0, .int .i64 0, .int .i64 0, .int .i64 0]) 7 72 Tryz.underlying34 hi0 hz0 hz1 hz2 rfl (by decide) (.slice oa j oc) j _ rfl hOA ⟨w4.heap.size, 0, none⟩ 1 1 _ rfl rfl hcc (by simp [Value.oneCell', CV.cells]) HBB.out.1 HBB.out.2 hb3 ?_; intro v' w6 hown' hgrow hnil hblk; obtain ⟨oa2, oc2, rfl⟩ := own_open hown'; have HKA := hid (((Chg.refl (Value.slice oa j oc).ownBlock.toList w4).alloc (.cells #[.int .i64 cp, .int .i64 co, .int .i64 cop, .slice ra4 wds.length rc4, .int .i64 ccd, .int .i64 cbg, .int .i64 cen] 45)).grown hgrow (fun k hk => .inl (Option.mem_toList.2 hk))); have HON := hid hown'; clear hown' hgrow hnil hblk))
    have hob : ∀ y ∈ (Value.slice oa j oc).ownBlock.toList, W.heap.size <= y := fun y hy => (World.ownsRow.lt HO.out y (Option.mem_toList.1 hy)).1
    have hsnoc : cvs (l.take (j + 1)) (rvs' ++ [.slice ra4 wds.length rc4]) = cvs (l.take j) rvs' ++ [⟨cp, co, cop, .slice ra4 wds.length rc4, ccd, cbg, cen⟩] := by
     rw [List.take_add_one, HCJ.out]
     have h1 := HJ.out
     have h2 := HN.out
     exact cvs_snoc (by rw [List.length_take, h1.2]; omega) _ _
    go_roundw
    case rel =>
     refine ⟨j + 1, oa2, oc2, rvs' ++ [.slice ra4 wds.length rc4], hid ⟨HJN.out, by have := HJ.out.2; simp; omega⟩, rfl, by go_num, hid ?_, hid ?_, hid ((HW.out.trans HC4.out).into HKA.out (fun y hy => .inr (hob y hy)))⟩
     · rw [hsnoc, List.flatMap_append]
       exact HON.out
     · intro k c r h1 h2
       have hkeep : ∀ (r : Value) (ws : List Int), OwnW w4 W.heap.size r ws -> OwnW w6 W.heap.size r ws := fun r ws hh => mem.own_chg hh HKA.out (fun y hy hm => own_type2 hh (mem.own_chg HO.out HC4.out (by simp)) (by decide) y hy (Option.mem_toList.1 hm))
       rw [List.take_add_one, HCJ.out] at h1
       have hjl : (l.take j).length = j := by have h3 := HJ.out; have h4 := HN.out; rw [List.length_take]; omega
       rcases Nat.lt_trichotomy k j with hk | hk | hk
       · rw [List.getElem?_append_left (by rw [hjl]; exact hk)] at h1
         rw [List.getElem?_append_left (by rw [HJ.out.2]; exact hk)] at h2
         obtain ⟨h5, h6⟩ := HRS.out k c r h1 h2
         exact ⟨hkeep r _ (mem.own_chg h5 HC4.out (by simp)), h6⟩
       · subst hk
         rw [List.getElem?_append_right (by rw [hjl]; exact Nat.le_refl _), hjl, Nat.sub_self] at h1
         rw [List.getElem?_append_right (by rw [HJ.out.2]; exact Nat.le_refl _), HJ.out.2, Nat.sub_self] at h2
         simp at h1 h2
         subst h1 h2
         exact ⟨hkeep _ _ (mem.own_base HO4.out (by have h7 := HSZ.out; have h8 := HC3.out.size; omega)), HRR.out.2⟩
       · rw [List.getElem?_eq_none (by rw [List.length_append, HJ.out.2]; simp; omega)] at h2
         cases h2
    case measure =>
     have := HJN.out
     simp [intOf]
     omega
  · obtain rfl : j = n := by have := HJ.out.1; omega
    have m1 : ¬ (j : Int) < (j : Int) := by omega
    clear hjn
    go_wp2
    go_ret
    refine ⟨oa, oc, rfl, ⟨rvs', ?_⟩, HW.out⟩
    have htk : l.take j = l := by rw [<- HN.out.1, List.take_length]
    have hro := HO.out
    have hrs := HRS.out
    rw [htk] at hro hrs
    refine ⟨HJ.out.2.trans HN.out.1.symm, ?_, fun k c r h1 h2 => ⟨Reads.of_own (hrs k c r h1 h2).1 (by decide), (hrs k c r h1 h2).2⟩⟩
    rw [HN.out.1]
    exact Reads.of_own hro (by decide)
def Inc (l : List Cl) : Prop := ∀ (i j : Nat) (x y : Cl), l[i]? = some x -> l[j]? = some y -> i < j -> x.bg < y.bg
theorem cvs_at {l : List Cl} {rvs : List Value} {k : Nat} {x : CV} (h : (cvs l rvs)[k]? = some x) : ∃ c r, l[k]? = some c /\ rvs[k]? = some r /\ x = c.cv r := by
 unfold cvs at h
 rw [List.getElem?_zipWith] at h
 cases hc : l[k]? with
 | none => rw [hc] at h; simp at h
 | some c =>
  cases hr : rvs[k]? with
  | none => rw [hc, hr] at h; simp at h
  | some r =>
   rw [hc, hr] at h
   simp at h
   exact ⟨c, r, rfl, rfl, h.symm⟩
theorem CallsR.srt {W : World} {a : Option Addr} {c : Nat} {l : List Cl} {rvs : List Value} (h : CallsR W (.slice a l.length c) l rvs) (hi : Inc l) (hl : l.length <= 100000) : Srt W a c (cvs l rvs) := by
 have hlen := cvs_len h.len
 refine ⟨by rw [hlen]; exact h.rd, fun x hx => ?_, fun i j x y hx hy hij => ?_, by rw [hlen]; exact hl⟩
 · obtain ⟨k, hk, hkx⟩ := List.getElem_of_mem hx
   obtain ⟨c', r, h1, h2, rfl⟩ := cvs_at (List.getElem?_eq_some_iff.2 ⟨hk, hkx⟩)
   obtain ⟨ra, rc, rfl, _⟩ := reads_slice (h.recs k c' r h1 h2).1
   rfl
 · obtain ⟨c1, r1, h1, h2, rfl⟩ := cvs_at hx
   obtain ⟨c2, r2, h3, h4, rfl⟩ := cvs_at hy
   exact hi i j c1 c2 h1 h3 hij
set_option maxHeartbeats 2000000 in
theorem Sort_any (v : Value) (l : List Cl) (rvs : List Value) (W : World) (h : CallsR W v l rvs) (hi : Inc l) (hl : l.length <= 100000) (hw : ∀ c ∈ l, c.wds.length <= 1000000) :
 Calls Tryz.prog 20 #[v] W fun e W' => ∃ a c rvs', e = .returned (.slice a l.length c) /\ CallsR W' (.slice a l.length c) l rvs' /\ Chg [] W W' := by
 have HP := hid (pick_any v l rvs W h hl hw)
 have HS := hid (fun V a c rvs' (hr : CallsR V (.slice a l.length c) l rvs') => sort_any a c (cvs l rvs') V (hr.srt hi hl))
 have HLN := hid (fun rvs' (hh : rvs'.length = l.length) => cvs_len (l := l) (rvs := rvs') hh)
 obtain ⟨va, vc, rfl⟩ : ∃ a c, v = .slice a l.length c := by
  obtain ⟨a, c, e, _⟩ := reads_slice h.rd; exact ⟨a, c, e⟩
 clear h hi hl hw
 go_enter Tryz.func20, Tryz.ntmps20
 go_wp2_with (first
  | (go_at_call 31; refine HP.out.mono ?_; rintro e w3 ⟨a3, c3, rvs3, rfl, hr3, hc3⟩; have hs3 := HS.out w3 a3 c3 rvs3 hr3; rw [HLN.out rvs3 hr3.len] at hs3; have HS3 := hid hs3; have HR3 := hid hr3; have HC3 := hid hc3; clear hr3 hc3 hs3)
  | (go_at_call 33; refine HS3.out.mono ?_; rintro e w4 ⟨rfl, hc4⟩; have HC4 := hid hc4; clear hc4))
 go_ret
 exact ⟨_, _, _, rfl, HR3.out.fresh HC4.out, HC3.out.trans HC4.out⟩
end Go.Proofs.YtphfnjcboellhaaGreatDoor.wv
