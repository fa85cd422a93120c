/- The weave: TopWraps, walked. -/
import Derived.Test.YtphfnjcboellhaaGreatDoorWvSim
import Derived.Test.YtphfnjcboellhaaGreatDoorWvFin
namespace Go.Proofs.YtphfnjcboellhaaGreatDoor.wv
open Go Go.RowKit kit obj mem core
set_option linter.unusedVariables false
set_option linter.unusedSimpArgs false
set_option maxRecDepth 20000
theorem Run_at {kk : Nat} {T : TypeId} {w0 r0 : Int} {K : Kind} {o : ObV} {ini ws : List Int} {ps : List Pr} {pa : Option Addr} {pc : Nat} {ts : List Int} {qa : Option Addr} {qc : Nat} {W : World} (D : KindOK kk T w0 r0 K) (h : Inp kk w0 r0 o ini ws ps pa pc ts qa qc W) (oc : Array Value) (ho : o.cells.toArray = oc) :
    Calls Tryz.prog 8 #[.agg oc, .slice pa ps.length pc, .slice qa ts.length qc] W fun e V => ∃ mv a c rvs, e = .returned (.tuple #[.slice a (turnsM K mv (frO o) (lo0 ws ps) ts).cs.length c, .int .i64 0]) ∧ CallsR V (.slice a (turnsM K mv (frO o) (lo0 ws ps) ts).cs.length c) (turnsM K mv (frO o) (lo0 ws ps) ts).cs rvs ∧ Good kk w0 r0 K o mv (lo0 ws ps) ts ∧ Chg [] W V := by
  subst ho
  exact Run_ok D h
theorem two_inp {kk : Nat} {T : TypeId} {w0 r0 : Int} {K : Kind} {o : ObV} {st : Int} {ini ws ws' : List Int} (h : Two kk T w0 r0 K o (o.at_ st) ini ws ws') {W : World} (ht : bitm.Tab W) {ps : List Pr} {pa : Option Addr} {pc : Nat} (hP : ProcsR W (.slice pa ps.length pc) ps) (hlen : ps.length = o.rl + 1) (hfit : PsFit (wOp o.k) (rOp o.k) o.w ps) (hsp : SmallP ps) (hi : ReadsW W (.slice o.ia o.il o.ic) ini) {ts : List Int} {qa : Option Addr} {qc : Nat} (hT : Reads W 1 (.slice qa ts.length qc) ts.length (ts.map (Value.int .i64))) (hl : ts.length ≤ 1000) :
    Inp kk w0 r0 o ini ws ps pa pc ts qa qc W ∧ Inp kk w0 r0 (o.at_ st) ini ws' ps pa pc ts qa qc W := by
  have hsm : ∀ p ∈ ps, p.l.length ≤ 1000 := fun p hp => by have := (hsp p hp).1; omega
  rw [h.w, h.r] at hfit
  exact ⟨⟨h.right, h.lay, ht, hP, hlen, hfit, hsm, hi, hT, hl⟩, ⟨h.right', h.lay', ht, hP, hlen, hfit, hsm, hi, hT, hl⟩⟩
def caseCells (o : ObV) (pv qv : Value) : Array Value := #[.int .i64 o.k, .int .i64 o.w, .int .i64 o.s, .int .i64 o.c, .int .u32 o.st, .slice o.ia o.il o.ic, .int .i64 o.wr, .slice o.ra o.rl o.rc, pv, qv]
set_option maxHeartbeats 8000000 in
theorem wraps_any (o : ObV) (hO : o.il ≤ 100 → o.rl ≤ 100 → ObjW o.k o.w o.s o.c o.st o.il o.rl) {W : World} (ht : bitm.Tab W) {ini : List Int} (hi : ReadsW W (.slice o.ia o.il o.ic) ini) {ps : List Pr} {pa : Option Addr} {pc : Nat} (hP : ProcsR W (.slice pa ps.length pc) ps) {ts : List Int} {qa : Option Addr} {qc : Nat} (hT : Reads W 1 (.slice qa ts.length qc) ts.length (ts.map (Value.int .i64))) {x : Int} (hx : 0 ≤ x ∧ x ≤ 4294967295) :
    Calls Tryz.prog 3 #[.agg (caseCells o (.slice pa ps.length pc) (.slice qa ts.length qc)), .int .u32 x] W fun e W' => e = .returned (.bool true) ∧ Chg [] W W' := by
  obtain ⟨W0, hW0⟩ : ∃ z, W.alloc (.cells (caseCells o (.slice pa ps.length pc) (.slice qa ts.length qc)) 29) = z := ⟨_, rfl⟩
  have hc0 : Chg [] W W0 := by rw [← hW0]; exact (Chg.refl _ _).alloc _
  have hbx : Blk W0 W.heap.size (caseCells o (.slice pa ps.length pc) (.slice qa ts.length qc)) 29 := by rw [← hW0]; exact Blk.new W _ _
  have FA := Lib.hid (fun (V : World) (hV : Chg [] W0 V) => (⟨(hbx.keep hV (by simp)).cell (o := 0) rfl, (hbx.keep hV (by simp)).cell (o := 1) rfl, (hbx.keep hV (by simp)).cell (o := 2) rfl, (hbx.keep hV (by simp)).cell (o := 3) rfl, (hbx.keep hV (by simp)).cell (o := 4) rfl, (hbx.keep hV (by simp)).cell (o := 5) rfl, (hbx.keep hV (by simp)).cell (o := 6) rfl, (hbx.keep hV (by simp)).cell (o := 7) rfl, (hbx.keep hV (by simp)).cell (o := 8) rfl, (hbx.keep hV (by simp)).cell (o := 9) rfl⟩ : V.cell? ⟨W.heap.size, 0, none⟩ = some (.int .i64 o.k) ∧ V.cell? ⟨W.heap.size, 1, none⟩ = some (.int .i64 o.w) ∧ V.cell? ⟨W.heap.size, 2, none⟩ = some (.int .i64 o.s) ∧ V.cell? ⟨W.heap.size, 3, none⟩ = some (.int .i64 o.c) ∧ V.cell? ⟨W.heap.size, 4, none⟩ = some (.int .u32 o.st) ∧ V.cell? ⟨W.heap.size, 5, none⟩ = some (.slice o.ia o.il o.ic) ∧ V.cell? ⟨W.heap.size, 6, none⟩ = some (.int .i64 o.wr) ∧ V.cell? ⟨W.heap.size, 7, none⟩ = some (.slice o.ra o.rl o.rc) ∧ V.cell? ⟨W.heap.size, 8, none⟩ = some (.slice pa ps.length pc) ∧ V.cell? ⟨W.heap.size, 9, none⟩ = some (.slice qa ts.length qc)))
  have HLI := Lib.hid (Light_any o.k o.w o.s o.c o.st o.ia o.il o.ic o.wr o.ra o.rl o.rc qa ts.length qc (hP.chg hc0))
  have HWV := Lib.hid (fun (V : World) (hV : Chg [] W0 V) => weaves_ok V (ht.keep (hc0.trans hV)))
  have HM := Lib.hid (⟨hO, ht, ⟨ini, hi⟩, hP, hT, hx, hc0⟩ : _ ∧ _ ∧ (∃ ini, ReadsW W (.slice o.ia o.il o.ic) ini) ∧ _ ∧ _ ∧ _ ∧ _)
  simp only [caseCells] at hW0 hbx ⊢
  clear hO ht hi hP hT hx hc0 hbx
  go_enter Tryz.func3, Tryz.ntmps3
  (try rw [hW0])
  obtain ⟨e0, e1, e2, e3, e4, e5, e6, e7, e8, e9⟩ := FA.out W0 (Chg.refl [] W0)
  go_upto_region 3 with (first
    | (go_at_call 5; (try rw [hW0]); refine HLI.out.mono ?_; rintro e w1 ⟨⟨b, rfl, hb⟩, hc⟩; have HB := Lib.hid hb; have HC1 := Lib.hid hc; obtain ⟨d0, d1, d2, d3, d4, d5, d6, d7, d8, d9⟩ := FA.out w1 hc; clear hb hc; cases b)
    | (go_at_call 6; obtain ⟨⟨hil, hrl⟩, hp20, hq400, hsp⟩ := HB.out (by first | trivial | rfl); refine (RFault_any o.k o.w o.s o.c o.st o.ia o.il o.ic o.wr o.ra o.rl o.rc (HM.out.1 hil hrl) hrl (HM.out.2.2.2.1.chg (HM.out.2.2.2.2.2.2.trans HC1.out)) hp20 hsp).mono ?_; rintro e w2 ⟨⟨cd, rfl, hcd⟩, hc⟩; have HLL := Lib.hid (⟨HM.out.1 hil hrl, hp20, hq400, hsp⟩ : _ ∧ _ ∧ _ ∧ _); have HC2 := Lib.hid (HC1.out.trans hc); have HCD := Lib.hid hcd; clear hcd hil hrl hp20 hq400 hsp hc; obtain hz | hne : cd = 0 ∨ (cd != 0) = true := (by by_cases hz : cd = 0; exact .inl hz; exact .inr (by simpa using hz)); subst hz)
    | (go_at_call 7; (first | refine (HWV.out _ HC2.out).mono ?_ | refine (HWV.out _ HC1.out).mono ?_); rintro e w3 ⟨rfl, hc⟩; have HC3 := Lib.hid hc; clear hc))
  · go_ret
    exact ⟨rfl, HM.out.2.2.2.2.2.2.trans (HC1.out.trans HC3.out)⟩
  rotate_left
  · go_ret
    exact ⟨rfl, HM.out.2.2.2.2.2.2.trans (HC2.out.trans HC3.out)⟩
  obtain ⟨hB, hlen, hfit⟩ := HCD.out (by first | trivial | rfl)
  obtain ⟨hO, hp20, hq400, hsp⟩ := HLL.out
  obtain ⟨-, ht, ⟨ini, hi⟩, hP, hT, hx, hc0⟩ := HM.out
  obtain ⟨kk, T, w0, r0, K, ws, ws', h2⟩ := two_any o hO hB hi hx
  obtain ⟨hin, hin'⟩ := two_inp h2 ht hP hlen hfit hsp hi hT (by omega)
  have HR1 := Lib.hid (fun V (hV : Chg [] W0 V) => Run_at h2.kind (hin.chg (hc0.trans hV)) #[.int .i64 o.k, .int .i64 o.w, .int .i64 o.s, .int .i64 o.c, .int .u32 o.st, .slice o.ia o.il o.ic, .int .i64 o.wr, .slice o.ra o.rl o.rc] rfl)
  have HR2 := Lib.hid (fun V (hV : Chg [] W0 V) => Run_at h2.kind (hin'.chg (hc0.trans hV)) #[.int .i64 o.k, .int .i64 o.w, .int .i64 o.s, .int .i64 o.c, .int .u32 (mvS o.k o.s o.st x), .slice o.ia o.il o.ic, .int .i64 o.wr, .slice o.ra o.rl o.rc] rfl)
  have HMO := Lib.hid (fun V => moved_any o.k o.w o.s o.c o.st o.ia o.il o.ic o.wr o.ra o.rl o.rc x hx hB V)
  have HSAME := Lib.hid h2.same
  have HQ : Hid (ts.length ≤ 1000) := Lib.hid (by omega)
  have HZ0 := Lib.hid hc0
  clear HM HLL HCD HB HLI hB hlen hfit hO hp20 hq400 hsp ht hi hP hT hx hc0 hin hin' h2 hW0 e0 e1 e2 e3 e4 e5 e6 e7 e8 e9 d0 d1 d2 d3 d4 d5 d6 d7 d8 d9
  obtain ⟨d0, d1, d2, d3, d4, d5, d6, d7, d8, d9⟩ := FA.out w2 HC2.out
  go_upto_region 4 with (go_at_call 8; refine (HR1.out _ HC2.out).mono ?_; rintro e w4 ⟨mv, a, c, rvs, rfl, hcr, hg, hc⟩; have HA := Lib.hid (⟨hcr, hg⟩ : _ ∧ _); have HC4 := Lib.hid (HC2.out.trans hc); obtain ⟨n1, hn1⟩ : ∃ y, (turnsM K mv (frO o) (lo0 ws ps) ts).cs.length = y := ⟨_, rfl⟩; have HN1 := Lib.hid hn1; rw [hn1]; clear hcr hg hc hn1)
  clear d0 d1 d2 d3 d4 d5 d6 d7 d8 d9
  have hHeld : (fun V' : World => Hid (Chg [] W0 V')) (World.drew w4) := Lib.hid HC4.out.drew
  refine wp_region_plan (fun V' : World => Hid (Chg [] W0 V')) [(0, true, some 32), (1, true, some 33), (2, true, some 34), (4, true, some 36), (5, true, some 37), (6, true, some 38), (7, true, some 39), (3, false, some 35), (8, false, some 40), (9, true, some 31), (10, true, some 41), (11, true, some 42), (12, true, some 7), (13, true, some 8)] (by kernel_rfl) (by kernel_rfl) (by kernel_rfl) (by kernel_rfl) (fun d c a v w h => by cases d <;> exact h) hHeld ?_
  repeat (first
    | (refine planWp_read (v := ?_) rfl rfl ?_ ?_ ?_; rotate_left; (focus rfl); (focus (intro u hSw; (try dsimp only at hSw); obtain ⟨e0, e1, e2, e3, e4, e5, e6, e7, e8, e9⟩ := FA.out u hSw.out; go_simp; (try with_reducible rfl))); (try simp only [Act.put, kit.sA, kit.sB, kit.sC])))
  refine planWp_do rfl rfl ?_ (fun K hK => ?_)
  focus rfl
  go_simp
  go_wp2_with (go_at_call 9; refine (HMO.out _).mono ?_; rintro e w5 ⟨rfl, hc5⟩; have HC5 : Hid (Chg [] W0 w5) := Lib.hid (HC4.out.drew.trans hc5); have HW5 : Hid (Chg [] w4 w5) := Lib.hid (((Chg.refl [] w4).drew).trans hc5); clear hc5)
  refine hK.out _ _ ?_ (fun hHeld2 => ?_)
  focus exact HC5
  clear hK K hHeld2 hHeld
  try simp only [Act.put, kit.sA, kit.sB, kit.sC]
  refine planWp_do rfl rfl ?_ (fun K hK => ?_)
  focus rfl
  go_simp
  go_wp2_with (go_at_call 8; refine (HR2.out _ HC5.out).mono ?_; rintro e w6 ⟨mv2, a2, c2, rvs2, rfl, hcr, hg, hc⟩; have HC6 : Hid (Chg [] W0 w6) := Lib.hid (HC5.out.trans hc); have HKB : Hid (Chg [] W0 w4) := HC4; have he := HSAME.out ps ts mv mv2 HA.out.2 hg; rw [he] at hcr ⊢; rw [HN1.out] at hcr ⊢; have HB2 := Lib.hid hcr; have HW6 := Lib.hid hc; clear hcr hg hc he)
  refine hK.out _ _ ?_ (fun hHeld2 => ?_)
  focus exact HC6
  clear hK K hHeld2
  try simp only [Act.put, kit.sA, kit.sB, kit.sC]
  repeat (first
    | (refine planWp_read (v := ?_) rfl rfl ?_ ?_ ?_; rotate_left; (focus rfl); (focus (intro u hSw; go_simp; (try with_reducible rfl))); (try simp only [Act.put, kit.sA, kit.sB, kit.sC])))
  refine planWp_nil ?_
  have hca := HA.out.1
  have hgl := HA.out.2.last
  have hnow := (turnsM_now K mv (frO o) ts (lo0 ws ps)).2
  have h0 : (lo0 ws ps).now = 0 := rfl
  rw [HN1.out] at hca
  have HCS := Lib.hid (Calls_same (.slice a n1 c) (.slice a2 n1 c2) _ rvs rvs2 w6 (hca.fresh (HW5.out.trans HW6.out)) HB2.out (by have h1 := hgl.1.cs; have h2 := HQ.out; omega) hgl.2.2.wds)
  clear hca hgl hnow h0
  go_wp2_with (first
    | (go_at_call 10; refine HCS.out.mono ?_; rintro e w7 ⟨rfl, hc⟩; have HC7 := Lib.hid (HC6.out.trans hc); clear hc)
    | (go_at_call 7; refine (HWV.out _ HC7.out).mono ?_; rintro e w8 ⟨rfl, hc⟩; have HC8 := Lib.hid (HC7.out.trans hc); clear hc))
  go_ret
  exact ⟨rfl, HZ0.out.trans HC8.out⟩
end Go.Proofs.YtphfnjcboellhaaGreatDoor.wv
