import Derived.Test.YtkedegbpkkgeaaaGreatTop11
import Derived.Test.YtkedegbpkkgeaaaGreatWordWalks
import Derived.Test.YtkedegbpkkgeaaaGreatTop1
/- TopFits: cost: best, both, often, rounds. -/
namespace Go.Proofs.YtkedegbpkkgeaaaGreat.tf
open Go Go.RowKit Go.Proofs.YtkedegbpkkgeaaaGreat.kit Go.Proofs.YtkedegbpkkgeaaaGreat.obj Go.Proofs.YtkedegbpkkgeaaaGreat.mem Go.Proofs.YtkedegbpkkgeaaaGreat.lay Go.Proofs.YtkedegbpkkgeaaaGreat.isa
set_option linter.unusedVariables false
set_option linter.unusedSimpArgs false
set_option maxRecDepth 20000

def mostF : Value := .func (.func 126) #[] #[]
theorem most1_any (a b : Int) (w : World) : Calls Tryz.prog 126 #[.int .i64 a, .int .i64 b] w fun e w' => e = .returned (.int .i64 (max a b)) ∧ w = w' := by
  obtain ⟨M, hM⟩ : ∃ x, max a b = x := ⟨_, rfl⟩
  have HM := Lib.hid hM
  rw [hM]
  clear hM
  go_enter Tryz.func126, Tryz.ntmps126
  go_wp2
  all_goals (go_ret; exact ⟨by rw [← HM.out]; refine ret_int ?_; omega, rfl⟩)
theorem best_any (bm : Nat) (a b : Int) (w : World) (h3 : w.cell? ⟨bm, 3, none⟩ = some (.func (.func 126) #[] #[])) :
    Calls Tryz.prog 178 #[.pointer (some ⟨bm, 0, none⟩), .int .i64 a, .int .i64 b] w fun e w' => e = .returned (.int .i64 (best a b)) ∧ w = w' := by
  obtain ⟨M, hM⟩ : ∃ x, best a b = x := ⟨_, rfl⟩
  rw [hM]
  unfold best at hM
  have HX := Lib.hid (fun V => most1_any a b V)
  by_cases h1 : a < 0
  · rw [if_pos h1] at hM
    subst hM
    go_enter Tryz.func178, Tryz.ntmps178
    go_wp2
    go_ret
    exact ⟨rfl, rfl⟩
  · by_cases h2 : b < 0
    · rw [if_neg h1, if_pos h2] at hM
      subst hM
      go_enter Tryz.func178, Tryz.ntmps178
      go_wp2
      go_ret
      exact ⟨rfl, rfl⟩
    · rw [if_neg h1, if_neg h2] at hM
      rw [hM] at HX
      clear hM
      go_enter Tryz.func178, Tryz.ntmps178
      go_wp2_with (go_at_call 126; refine (HX.out _).mono ?_; rintro e w' ⟨rfl, rfl⟩)
      go_ret
      exact ⟨rfl, rfl⟩
theorem both_any (a b : Int) (w : World) : Calls Tryz.prog 179 #[.int .i64 a, .int .i64 b] w fun e w' => e = .returned (.int .i64 (both a b)) ∧ w = w' := by
  obtain ⟨M, hM⟩ : ∃ x, both a b = x := ⟨_, rfl⟩
  rw [hM]
  unfold both at hM
  have HX := Lib.hid (fun V => Go.Proofs.YtkedegbpkkgeaaaGreat.word.Add_any a b V)
  by_cases h1 : a < 0
  · rw [if_pos (.inl h1)] at hM
    subst hM
    go_enter Tryz.func179, Tryz.ntmps179
    go_wp2
    go_ret
    exact ⟨rfl, rfl⟩
  · by_cases h2 : b < 0
    · rw [if_pos (.inr h2)] at hM
      subst hM
      go_enter Tryz.func179, Tryz.ntmps179
      go_wp2
      go_ret
      exact ⟨rfl, rfl⟩
    · rw [if_neg (by omega)] at hM
      unfold addT at hM
      rw [hM] at HX
      clear hM
      go_enter Tryz.func179, Tryz.ntmps179
      go_wp2_with (go_at_call 43; refine (HX.out _).mono ?_; rintro e w' ⟨rfl, rfl⟩)
      go_ret
      exact ⟨rfl, rfl⟩
theorem often_any (n one : Int) (w : World) : Calls Tryz.prog 180 #[.int .i64 n, .int .i64 one] w fun e w' => e = .returned (.int .i64 (often n one)) ∧ w = w' := by
  obtain ⟨M, hM⟩ : ∃ x, often n one = x := ⟨_, rfl⟩
  rw [hM]
  unfold often at hM
  have HX := Lib.hid (fun V => Go.Proofs.YtkedegbpkkgeaaaGreat.word.Mul_any n one V)
  by_cases h1 : one < 0
  · rw [if_pos h1] at hM
    subst hM
    go_enter Tryz.func180, Tryz.ntmps180
    go_wp2
    go_ret
    exact ⟨rfl, rfl⟩
  · rw [if_neg h1] at hM
    rw [hM] at HX
    clear hM
    go_enter Tryz.func180, Tryz.ntmps180
    go_wp2_with (go_at_call 44; refine (HX.out _).mono ?_; rintro e w' ⟨rfl, rfl⟩)
    go_ret
    exact ⟨rfl, rfl⟩
theorem results_row_one {P : Program} {fn : Func} {p : Tmp} {ty : TypeId} (h : fn.results = #[.cell p ty]) (tmps : Array Value) (w : World) (g : Nat) (t : TypeId) (cs : Array Value) (fr : Nat × Nat) (d : TypeDesc)
    (hp : tmps.getD p undef = .pointer (some ⟨g, 0, none⟩)) (hg : w.heap[g]? = some (.cells cs t fr))
    (hu : P.underlying ty = some d) (hd : (match d with | .struct _ | .array _ _ => true | _ => false) = true) (hi : (P.info? ty).map (·.size) = some cs.size) :
    (results fn tmps).run P w = .ok (.agg cs) w := by
  have hp' : tmps[p]?.getD undef = .pointer (some ⟨g, 0, none⟩) := by simpa using hp
  simp [results, h, hp', asAddr, run_loadVar_row w g t ty cs fr d hg hu hd hi]
theorem szWay : (Tryz.prog.info? 146).map (·.size) = some 2 := by kernel_rfl
def wy (x : Int × Int) : Value := .agg #[.int .i64 x.1, .int .i64 x.2]
set_option maxHeartbeats 8000000 in
theorem rounds_any (bm : Nat) (o1 o2 n1 n2 turns : Int) (W : World) (ht : -1000000 ≤ turns ∧ turns ≤ 1000000) (h3 : W.cell? ⟨bm, 3, none⟩ = some (.func (.func 126) #[] #[])) :
    Calls Tryz.prog 170 #[.pointer (some ⟨bm, 0, none⟩), .agg #[.int .i64 o1, .int .i64 o2], .agg #[.int .i64 n1, .int .i64 n2], .int .i64 turns] W fun e W' => e = .returned (wy (roundsM (o1, o2) (n1, n2) turns)) ∧ Chg [] W W' := by
  have kt : IntKind.i64.wrap (turns + 1) = turns + 1 := by rw [IntKind.wrap_i64]; omega
  have HC3 : Hid (Chg [] W (((W.alloc (.cells #[.int .i64 o1, .int .i64 o2] 146)).alloc (.cells #[.int .i64 n1, .int .i64 n2] 146)).alloc (.cells #[.int .i64 0, .int .i64 0] 146))) := Lib.hid ((((Chg.refl [] W).alloc _).alloc _).alloc _)
  have HBA : Hid (Blk (((W.alloc (.cells #[.int .i64 o1, .int .i64 o2] 146)).alloc (.cells #[.int .i64 n1, .int .i64 n2] 146)).alloc (.cells #[.int .i64 0, .int .i64 0] 146)) W.heap.size #[.int .i64 o1, .int .i64 o2] 146) := Lib.hid (((Blk.new W _ _).alloc _).alloc _)
  have HBB : Hid (Blk (((W.alloc (.cells #[.int .i64 o1, .int .i64 o2] 146)).alloc (.cells #[.int .i64 n1, .int .i64 n2] 146)).alloc (.cells #[.int .i64 0, .int .i64 0] 146)) (W.heap.size + 1) #[.int .i64 n1, .int .i64 n2] 146) := Lib.hid (by
    have := (Blk.new (W.alloc (.cells #[.int .i64 o1, .int .i64 o2] 146)) #[.int .i64 n1, .int .i64 n2] 146).alloc (.cells #[.int .i64 0, .int .i64 0] 146)
    rwa [show (W.alloc (.cells #[.int .i64 o1, .int .i64 o2] 146)).heap.size = W.heap.size + 1 by simp] at this)
  have HBR : Hid (Blk (((W.alloc (.cells #[.int .i64 o1, .int .i64 o2] 146)).alloc (.cells #[.int .i64 n1, .int .i64 n2] 146)).alloc (.cells #[.int .i64 0, .int .i64 0] 146)) (W.heap.size + 1 + 1) #[.int .i64 0, .int .i64 0] 146) := Lib.hid (by
    have := Blk.new ((W.alloc (.cells #[.int .i64 o1, .int .i64 o2] 146)).alloc (.cells #[.int .i64 n1, .int .i64 n2] 146)) #[.int .i64 0, .int .i64 0] 146
    rwa [show ((W.alloc (.cells #[.int .i64 o1, .int .i64 o2] 146)).alloc (.cells #[.int .i64 n1, .int .i64 n2] 146)).heap.size = W.heap.size + 1 + 1 by simp] at this)
  have H3 := Lib.hid h3
  obtain ⟨al, hal⟩ : ∃ x, often (turns + 1) o1 = x := ⟨_, rfl⟩
  obtain ⟨ot, hot⟩ : ∃ x, often turns o1 = x := ⟨_, rfl⟩
  obtain ⟨bo, hbo⟩ : ∃ x, both ot o2 = x := ⟨_, rfl⟩
  obtain ⟨en, hen⟩ : ∃ x, best o2 bo = x := ⟨_, rfl⟩
  obtain ⟨t1, ht1⟩ : ∃ x, both al n1 = x := ⟨_, rfl⟩
  obtain ⟨t2, ht2⟩ : ∃ x, both al n2 = x := ⟨_, rfl⟩
  obtain ⟨e2, he2⟩ : ∃ x, best en t2 = x := ⟨_, rfl⟩
  have HAL := Lib.hid (fun V => by have h := often_any (turns + 1) o1 V; rw [hal] at h; exact h)
  have HOT := Lib.hid (fun V => by have h := often_any turns o1 V; rw [hot] at h; exact h)
  have HBO := Lib.hid (fun V => by have h := both_any ot o2 V; rw [hbo] at h; exact h)
  have HT1 := Lib.hid (fun V => by have h := both_any al n1 V; rw [ht1] at h; exact h)
  have HT2 := Lib.hid (fun V => by have h := both_any al n2 V; rw [ht2] at h; exact h)
  have HEN := Lib.hid (fun (V : World) (hV : V.cell? ⟨bm, 3, none⟩ = some (.func (.func 126) #[] #[])) => by have h := best_any bm o2 bo V hV; rw [hen] at h; exact h)
  have HE2 := Lib.hid (fun (V : World) (hV : V.cell? ⟨bm, 3, none⟩ = some (.func (.func 126) #[] #[])) => by have h := best_any bm en t2 V hV; rw [he2] at h; exact h)
  have HRES : Hid (roundsM (o1, o2) (n1, n2) turns = (t1, e2)) := Lib.hid (by unfold roundsM; simp only [hal, hot, hbo, hen, ht1, ht2, he2])
  clear hal hot hbo hen ht1 ht2 he2 h3 ht
  go_enter Tryz.func170, Tryz.ntmps170
  go_upto_region 2 with (go_at_call 180; with_reducible refine (HAL.out _).mono ?_; rintro e w5 ⟨rfl, rfl⟩)
  obtain ⟨w3, hw3⟩ : ∃ x, x = (((W.alloc (.cells #[.int .i64 o1, .int .i64 o2] 146)).alloc (.cells #[.int .i64 n1, .int .i64 n2] 146)).alloc (.cells #[.int .i64 0, .int .i64 0] 146)) := ⟨_, rfl⟩
  rw [← hw3] at HC3 HBA HBB HBR ⊢
  clear hw3
  have KEEP : Hid (∀ V, Chg [] w3 V → (fun V : World => (V.cell? ⟨W.heap.size, 0, none⟩ = some (.int .i64 o1) ∧ V.cell? ⟨W.heap.size, 1, none⟩ = some (.int .i64 o2)) ∧ (V.cell? ⟨W.heap.size + 1, 0, none⟩ = some (.int .i64 n1) ∧ V.cell? ⟨W.heap.size + 1, 1, none⟩ = some (.int .i64 n2)) ∧ V.cell? ⟨bm, 3, none⟩ = some (.func (.func 126) #[] #[]) ∧ Hid (Chg [] w3 V)) V) := Lib.hid (fun V hV => ⟨⟨(HBA.out.keep hV (by simp)).cell rfl, (HBA.out.keep hV (by simp)).cell rfl⟩, ⟨(HBB.out.keep hV (by simp)).cell rfl, (HBB.out.keep hV (by simp)).cell rfl⟩, (HC3.out.trans hV).keep H3.out (by simp), Lib.hid hV⟩)
  have hHeld : (fun V : World => (V.cell? ⟨W.heap.size, 0, none⟩ = some (.int .i64 o1) ∧ V.cell? ⟨W.heap.size, 1, none⟩ = some (.int .i64 o2)) ∧ (V.cell? ⟨W.heap.size + 1, 0, none⟩ = some (.int .i64 n1) ∧ V.cell? ⟨W.heap.size + 1, 1, none⟩ = some (.int .i64 n2)) ∧ V.cell? ⟨bm, 3, none⟩ = some (.func (.func 126) #[] #[]) ∧ Hid (Chg [] w3 V)) (World.drew w3) := KEEP.out _ (Chg.refl _ _).drew
  refine wp_region_plan (fun V : World => (V.cell? ⟨W.heap.size, 0, none⟩ = some (.int .i64 o1) ∧ V.cell? ⟨W.heap.size, 1, none⟩ = some (.int .i64 o2)) ∧ (V.cell? ⟨W.heap.size + 1, 0, none⟩ = some (.int .i64 n1) ∧ V.cell? ⟨W.heap.size + 1, 1, none⟩ = some (.int .i64 n2)) ∧ V.cell? ⟨bm, 3, none⟩ = some (.func (.func 126) #[] #[]) ∧ Hid (Chg [] w3 V)) [(0, true, some 16), (1, true, some 17), (2, true, some 18), (3, true, some 19), (4, true, some 20), (5, true, some 21), (7, true, some 23), (8, true, some 24), (6, false, some 22), (9, false, some 25), (10, false, some 26), (11, true, some 10)] (by kernel_rfl) (by kernel_rfl) (by kernel_rfl) (by kernel_rfl) (fun d c a v w h => by cases d <;> exact h) hHeld ?_
  repeat (first
    | (refine planWp_read (v := ?_) rfl rfl ?_ ?_ ?_; rotate_left; (focus rfl); (focus (intro u hSw; (try dsimp only at hSw); obtain ⟨⟨x0, x1⟩, ⟨x2, x3⟩, x4, -⟩ := hSw; go_simp; (try with_reducible rfl))); (try simp only [Act.put, List.setIfInBounds_toArray, List.set_cons_zero, List.set_cons_succ]))
    | (refine planWp_skip rfl rfl ?_ ?_; (focus rfl); (try simp only [Act.put, List.setIfInBounds_toArray, List.set_cons_zero, List.set_cons_succ]))
    | (refine planWp_leave rfl rfl ?_ hHeld ?_; (focus rfl); (try simp only [Act.put, List.setIfInBounds_toArray, List.set_cons_zero, List.set_cons_succ]))
    | (refine planWp_do rfl rfl ?_ (fun K hK => ?_); (focus rfl); go_simp; (try go_wp2_with (first | (go_at_call 180; with_reducible refine (HOT.out _).mono ?_; rintro e w5 ⟨rfl, rfl⟩) | (go_at_call 179; with_reducible refine (HBO.out _).mono ?_; rintro e w5 ⟨rfl, rfl⟩) | (go_at_call 178; with_reducible refine (HEN.out _ hHeld.2.2.1).mono ?_; rintro e w5 ⟨rfl, rfl⟩))); refine hK.out _ _ ?_ (fun hHeld2 => ?_); (focus exact hHeld); clear hK K hHeld; have hHeld := hHeld2; clear hHeld2; (try simp only [Act.put, List.setIfInBounds_toArray, List.set_cons_zero, List.set_cons_succ])))
  refine planWp_nil ?_
  go_wp2_with fail
  have hHeld3 := hHeld
  clear hHeld
  have hHeld : (fun V : World => (V.cell? ⟨W.heap.size, 0, none⟩ = some (.int .i64 o1) ∧ V.cell? ⟨W.heap.size, 1, none⟩ = some (.int .i64 o2)) ∧ (V.cell? ⟨W.heap.size + 1, 0, none⟩ = some (.int .i64 n1) ∧ V.cell? ⟨W.heap.size + 1, 1, none⟩ = some (.int .i64 n2)) ∧ V.cell? ⟨bm, 3, none⟩ = some (.func (.func 126) #[] #[]) ∧ Hid (Chg [] w3 V)) (World.drew (World.drew w3)) := KEEP.out _ (hHeld3.2.2.2.out.drew)
  refine wp_region_planT (fun V : World => (V.cell? ⟨W.heap.size, 0, none⟩ = some (.int .i64 o1) ∧ V.cell? ⟨W.heap.size, 1, none⟩ = some (.int .i64 o2)) ∧ (V.cell? ⟨W.heap.size + 1, 0, none⟩ = some (.int .i64 n1) ∧ V.cell? ⟨W.heap.size + 1, 1, none⟩ = some (.int .i64 n2)) ∧ V.cell? ⟨bm, 3, none⟩ = some (.func (.func 126) #[] #[]) ∧ Hid (Chg [] w3 V)) 12 [(0, true, some 27), (1, true, some 28), (2, true, some 29), (4, true, some 31), (5, true, some 32), (6, true, some 33), (7, true, some 34), (8, true, some 35), (3, false, some 30), (9, false, some 36), (10, false, some 37), (11, true, some 38)] (by kernel_rfl) (by kernel_rfl) (by kernel_rfl) (by kernel_rfl) (by kernel_rfl) (fun d c a v w h => by cases d <;> exact h) hHeld ?_
  repeat (first
    | (refine planT_read (v := ?_) rfl rfl ?_ ?_ ?_; rotate_left; (focus rfl); (focus (intro u hSw; (try dsimp only at hSw); obtain ⟨⟨x0, x1⟩, ⟨x2, x3⟩, x4, -⟩ := hSw; go_simp; (try with_reducible rfl))); (try simp only [Act.put, List.setIfInBounds_toArray, List.set_cons_zero, List.set_cons_succ]))
    | (refine planT_skip rfl rfl ?_ ?_; (focus rfl); (try simp only [Act.put, List.setIfInBounds_toArray, List.set_cons_zero, List.set_cons_succ]))
    | (refine planT_do rfl rfl ?_ (fun K hK => ?_); (focus rfl); go_simp; (try go_wp2_with (first | (go_at_call 179; with_reducible refine (HT1.out _).mono ?_; rintro e w5 ⟨rfl, rfl⟩) | (go_at_call 179; with_reducible refine (HT2.out _).mono ?_; rintro e w5 ⟨rfl, rfl⟩) | (go_at_call 178; with_reducible refine (HE2.out _ hHeld.2.2.1).mono ?_; rintro e w5 ⟨rfl, rfl⟩))); refine hK.out _ _ ?_ (fun hHeld2 => ?_); (focus exact hHeld); clear hK K hHeld; have hHeld := hHeld2; clear hHeld2; (try simp only [Act.put, List.setIfInBounds_toArray, List.set_cons_zero, List.set_cons_succ])))
  refine planT_last rfl rfl (fun K hK => ?_)
  refine Go.Proofs.YtkedegbpkkgeaaaGreat.blk.wp_store_blk 146 (.tmp 8) (.tmp 38) rfl (W.heap.size + 1 + 1) #[.int .i64 t1, .int .i64 e2] rfl rfl (HBR.out.keep hHeld.2.2.2.out (by simp)) szWay rfl (by simp [Value.oneCell']) ?_
  intro w9 hb9 hc9
  refine hK.out _ _ ?_
  have HB9 := Lib.hid hb9
  have HC9 := Lib.hid ((HC3.out.trans hHeld.2.2.2.out).into hc9 (fun y hy => .inr (by simp at hy; omega)))
  clear hb9 hc9 hHeld hK K
  go_wp2_with fail
  refine bodyPost_ret (results_row_one rfl _ _ (W.heap.size + 1 + 1) 146 _ (0, 0) _ rfl HB9.out Tryz.underlying146 rfl szWay) rfl ?_
  exact ⟨by rw [HRES.out]; rfl, HC9.out⟩
end Go.Proofs.YtkedegbpkkgeaaaGreat.tf
/- TopFits: cost: a step. -/
namespace Go.Proofs.YtkedegbpkkgeaaaGreat.tf
open Go Go.RowKit Go.Proofs.YtkedegbpkkgeaaaGreat.kit Go.Proofs.YtkedegbpkkgeaaaGreat.obj Go.Proofs.YtkedegbpkkgeaaaGreat.mem Go.Proofs.YtkedegbpkkgeaaaGreat.lay Go.Proofs.YtkedegbpkkgeaaaGreat.isa
set_option linter.unusedVariables false
set_option linter.unusedSimpArgs false
set_option maxRecDepth 20000

/-- what is measured: a program, its weights, its loops, which is better -/
structure Ms (W : World) (bm : Nat) (pa : Option Addr) (pc : Nat) (wa : Option Addr) (wc : Nat) (la : Option Addr) (lc : Nat) (p : List Ins) (ws : List Int) : Prop where
  c0 : W.cell? ⟨bm, 0, none⟩ = some (.slice pa p.length pc)
  c1 : W.cell? ⟨bm, 1, none⟩ = some (.slice wa p.length wc)
  c2 : W.cell? ⟨bm, 2, none⟩ = some (.slice la (loopsF 0 p).length lc)
  c3 : W.cell? ⟨bm, 3, none⟩ = some (.func (.func 126) #[] #[])
  rp : ReadsC W (.slice pa p.length pc) p
  rw : ReadsN W (.slice wa p.length wc) ws
  rl : ReadsS W (.slice la (loopsF 0 p).length lc) (loopsF 0 p)
  fine : FineP p
  wl : ws.length = p.length
theorem Ms.chg {W V : World} {bm : Nat} {pa : Option Addr} {pc : Nat} {wa : Option Addr} {wc : Nat} {la : Option Addr} {lc : Nat} {p : List Ins} {ws : List Int} (h : Ms W bm pa pc wa wc la lc p ws) (k : Chg [] W V) : Ms V bm pa pc wa wc la lc p ws :=
  ⟨k.keep h.c0 (by simp), k.keep h.c1 (by simp), k.keep h.c2 (by simp), k.keep h.c3 (by simp), h.rp.chg k, h.rw.chg k, h.rl.chg k, h.fine, h.wl⟩
theorem ways_at {w : World} {a : Option Addr} {n c : Nat} {l : List (Int × Int)} (h : ReadsS w (.slice a n c) l) : n = l.length ∧ ∃ b off,
    (∀ (i : Nat), i < l.length → ∀ u, (Instr.indexAt 154 (.slice a n c) (.int .i64 (i : Int))).run Tryz.prog u = .ok (.pointer (some ⟨b, off + i * 2, none⟩)) u) ∧
    ∀ V, Chg [] w V → ∀ (j : Nat) (d : Int × Int), l[j]? = some d → SC V b (off + j * 2) d := by
  have hl : n = l.length := by obtain ⟨_, _, he, _⟩ := reads_slice h; simp at he; exact he.2.1
  obtain ⟨b, o, hx, hc, -⟩ := reads_index (P := Tryz.prog) Tryz.underlying154 szWay h
  refine ⟨hl, b, o, hx, fun V hV j d hd => ?_⟩
  have g := fun (k : Nat) (hk : k < 2) (v : Value) (hv : (spc d)[k]? = some v) => hV.keep (hc (j * 2 + k) v (by rw [flatMap_get spc 2 (fun _ => rfl) _ j k hk _ hd]; exact hv)) (by simp)
  refine ⟨g 0 (by decide) _ rfl, ?_⟩
  have := g 1 (by decide) _ rfl; rwa [← Nat.add_assoc] at this
theorem next_rg {p : List Ins} (hf : FineP p) {j : Nat} {i : Ins} (hj : p[j]? = some i) (hw : (Lit.int .u32 i.n).wf = true) : ∀ t ∈ nextM i j, 0 ≤ t ∧ t ≤ p.length := by
  have hlt : j < p.length := (List.getElem?_eq_some_iff.1 hj).1
  have hld := hf.lead j i hj
  have hn := u32_nn hw
  intro t ht
  unfold nextM at ht
  split at ht
  · cases ht
  · split at ht
    · rename_i h1 h2
      have := hld.2 (.inl h2)
      simp at ht; omega
    · split at ht
      · simp at ht; omega
      · rename_i h1 h2 h3
        have hl : leadsI i.op = true := by
          cases h : leadsI i.op
          · exact absurd (.inl h) h3
          · rfl
        simp only [leadsI, decide_eq_true_eq] at hl
        have h15 : i.op = 15 ∨ i.op = 16 := by omega
        rcases h15 with h15 | h15
        · have := hld.2 (.inr h15)
          simp at ht; omega
        · have := hld.1 h15
          simp at ht; omega
theorem next_len (i : Ins) (j : Int) : (nextM i j).length ≤ 2 := by
  unfold nextM
  split
  · simp
  · split
    · simp
    · split <;> simp
def fold1 (x : Int) (l : List (Int × Int)) (a : Int × Int) (to_ : Int) : Int × Int := (best a.1 (both x (wayAt l to_).1), best a.2 (both x (wayAt l to_).2))
theorem foldW_snoc (x : Int) (l : List (Int × Int)) {ns : List Int} {m : Nat} {t : Int} (h : ns[m]? = some t) : foldW x l (ns.take (m + 1)) = fold1 x l (foldW x l (ns.take m)) t := by
  unfold foldW
  rw [take_snoc h, List.foldl_append]
  rfl
theorem wayAt_get {l : List (Int × Int)} {k : Nat} {d : Int × Int} (h : l[k]? = some d) : wayAt l (k : Int) = d := by
  unfold wayAt; rw [List.getD_eq_getElem?_getD, Int.toNat_natCast, h]; rfl
set_option maxHeartbeats 8000000 in
theorem step_any (bm : Nat) (pa : Option Addr) (pc : Nat) (wa : Option Addr) (wc : Nat) (la : Option Addr) (lc : Nat) (p : List Ins) (ws : List Int) (av : Value) (l : List (Int × Int)) (W : World) (hm : Ms W bm pa pc wa wc la lc p ws) (ha : ReadsS W av l) (hl : l.length = p.length + 1) (j : Nat) (i : Ins) (hj : p[j]? = some i) :
    Calls Tryz.prog 169 #[.pointer (some ⟨bm, 0, none⟩), .int .i64 (j : Int), av] W fun e W' => e = .returned (wy (stepM i j (ws.getD j 0) l)) ∧ Chg [] W W' := by
  have hlt : j < p.length := (List.getElem?_eq_some_iff.1 hj).1
  obtain ⟨x, hx⟩ : ∃ x, ws[j]? = some x := ⟨_, List.getElem?_eq_getElem (by rw [hm.wl]; exact hlt)⟩
  have hwx : ws.getD j 0 = x := by rw [List.getD_eq_getElem?_getD, hx]; rfl
  rw [hwx]
  obtain ⟨hwl, b1, o1, hx1, hc1⟩ := ints_at hm.rw
  have g1 := hx1 j (by omega)
  have q1 := hc1 W (Chg.refl _ _) j x hx
  obtain ⟨-, b2, o2, hx2, hc2⟩ := code_at hm.rp
  have g2 := hx2 j hlt
  have HQ2 : Hid (∀ V, Chg [] W V → V.cell? ⟨b2, o2 + j * 5, none⟩ = some (.int .i64 i.op)) := Lib.hid (fun V hV => (hc2 V hV j _ hj).1)
  have HAD := Lib.hid (fun V => Go.Proofs.YtkedegbpkkgeaaaGreat.word.Add_any x 0 V)
  obtain ⟨xa, hxa⟩ : ∃ y, word.inside (word.inside x + word.inside 0) = y := ⟨_, rfl⟩
  rw [hxa] at HAD
  have HXA : Hid (addT x 0 = xa) := Lib.hid hxa
  have HM := Lib.hid hm
  have HA1 : Hid (Chg [] W (W.alloc (.cells #[.int .i64 0, .int .i64 0] 146))) := Lib.hid ((Chg.refl [] W).alloc _)
  have HB1 := Lib.hid (Blk.new W #[.int .i64 0, .int .i64 0] 146)
  have c0 := HA1.out.keep hm.c0 (by simp)
  have c1 := HA1.out.keep hm.c1 (by simp)
  have q1' := HA1.out.keep q1 (by simp)
  have q2 := HQ2.out _ HA1.out
  have HI : Hid (stepM i j x l = if i.op = 21 then (-1, xa) else if i.op = 16 then (xa, -1) else foldW xa l (nextM i j)) := Lib.hid (by unfold stepM; rw [HXA.out])
  have HNX := Lib.hid (fun V (hV : Chg [] W V) => fNext_any pa pc p V (hm.rp.chg hV) hm.fine j i hj)
  have hrg := next_rg hm.fine hj (hm.rp.2 i (List.mem_of_getElem? hj))
  have hnl := next_len i j
  obtain ⟨ns, hns⟩ : ∃ y, nextM i j = y := ⟨_, rfl⟩
  rw [hns] at hrg hnl HI HNX
  obtain ⟨aa, ac, rfl, -⟩ := reads_slice ha
  obtain ⟨hal, b3, o3, hx3, hc3⟩ := ways_at ha
  have HX3 := Lib.hid hx3
  have HC3 := Lib.hid hc3
  have HRG := Lib.hid hrg
  have HNL := Lib.hid hnl
  have HAL := Lib.hid hl
  obtain ⟨op, hop⟩ : ∃ y, i.op = y := ⟨_, rfl⟩
  rw [hop] at q2 HI
  clear hm ha hl hj hlt hx hwx hx1 hc1 hx2 hc2 hx3 hc3 hxa hrg hnl hns hop q1 hwl hal
  by_cases h21 : op = 21
  · subst h21
    go_enter Tryz.func169, Tryz.ntmps169
    go_upto_region 4 with (go_at_call 43; refine (HAD.out _).mono ?_; rintro e w' ⟨rfl, rfl⟩)
    go_wp2_with (refine Go.Proofs.YtkedegbpkkgeaaaGreat.blk.wpList_store_blk rfl 146 (.tmp 6) (.tmp 30) rfl W.heap.size #[.int .i64 (-1), .int .i64 xa] rfl rfl HB1.out szWay rfl (by simp [Value.oneCell']) ?_; intro w9 hb9 hc9; have HB9 := Lib.hid hb9; have HC9 := Lib.hid hc9; clear hb9 hc9)
    refine bodyPost_ret (results_row_one rfl _ _ W.heap.size 146 _ (0, 0) _ rfl HB9.out Tryz.underlying146 rfl szWay) rfl ?_
    exact ⟨by rw [HI.out]; rfl, HA1.out.into HC9.out (fun y hy => .inr (by simp at hy; omega))⟩
  have d21 : (op == 21) = false := by simpa using h21
  by_cases h16 : op = 16
  · subst h16
    go_enter Tryz.func169, Tryz.ntmps169
    go_upto_region 6 with (go_at_call 43; refine (HAD.out _).mono ?_; rintro e w' ⟨rfl, rfl⟩)
    go_wp2_with (refine Go.Proofs.YtkedegbpkkgeaaaGreat.blk.wpList_store_blk rfl 146 (.tmp 6) (.tmp 34) rfl W.heap.size #[.int .i64 xa, .int .i64 (-1)] rfl rfl HB1.out szWay rfl (by simp [Value.oneCell']) ?_; intro w9 hb9 hc9; have HB9 := Lib.hid hb9; have HC9 := Lib.hid hc9; clear hb9 hc9)
    refine bodyPost_ret (results_row_one rfl _ _ W.heap.size 146 _ (0, 0) _ rfl HB9.out Tryz.underlying146 rfl szWay) rfl ?_
    exact ⟨by rw [HI.out]; rfl, HA1.out.into HC9.out (fun y hy => .inr (by simp at hy; omega))⟩
  have d16 : (op == 16) = false := by simpa using h16
  have HI2 : Hid (stepM i j x l = foldW xa l ns) := Lib.hid (by rw [HI.out, if_neg h21, if_neg h16])
  clear h21 h16
  have HA2 : Hid (Chg [] W ((W.alloc (.cells #[.int .i64 0, .int .i64 0] 146)).alloc (.cells #[.int .i64 (-1), .int .i64 (-1)] 146))) := Lib.hid (HA1.out.alloc _)
  have HBR : Hid (Blk ((W.alloc (.cells #[.int .i64 0, .int .i64 0] 146)).alloc (.cells #[.int .i64 (-1), .int .i64 (-1)] 146)) W.heap.size #[.int .i64 0, .int .i64 0] 146) := Lib.hid ((Blk.new W _ _).alloc _)
  have HBO : Hid (Blk ((W.alloc (.cells #[.int .i64 0, .int .i64 0] 146)).alloc (.cells #[.int .i64 (-1), .int .i64 (-1)] 146)) (W.heap.size + 1) #[.int .i64 (-1), .int .i64 (-1)] 146) := Lib.hid (by
    have := Blk.new (W.alloc (.cells #[.int .i64 0, .int .i64 0] 146)) #[.int .i64 (-1), .int .i64 (-1)] 146
    rwa [show (W.alloc (.cells #[.int .i64 0, .int .i64 0] 146)).heap.size = W.heap.size + 1 by simp] at this)
  go_enter Tryz.func169, Tryz.ntmps169
  go_upto_region 8 with (go_at_call 43; refine (HAD.out _).mono ?_; rintro e w' ⟨rfl, rfl⟩)
  obtain ⟨w2, hw2⟩ : ∃ x, x = ((W.alloc (.cells #[.int .i64 0, .int .i64 0] 146)).alloc (.cells #[.int .i64 (-1), .int .i64 (-1)] 146)) := ⟨_, rfl⟩
  rw [← hw2] at HA2 HBR HBO ⊢
  clear hw2 c0 c1 q1' q2
  have c0 := HA2.out.keep HM.out.c0 (by simp)
  go_upto_region 9 with (go_at_call 177; refine (HNX.out _ HA2.out).mono ?_; rintro e w3 ⟨⟨na, nc, rfl, hrn, hob⟩, hc3⟩; have HC4 := Lib.hid hc3; have HRN := Lib.hid hrn; have HOB := Lib.hid hob; clear hc3 hrn hob)
  have HBR3 : Hid (Blk w3 W.heap.size #[.int .i64 0, .int .i64 0] 146) := Lib.hid (HBR.out.keep HC4.out (by simp))
  have HBO3 : Hid (Blk w3 (W.heap.size + 1) #[.int .i64 (-1), .int .i64 (-1)] 146) := Lib.hid (HBO.out.keep HC4.out (by simp))
  have HCW3 : Hid (Chg [] W w3) := Lib.hid (HA2.out.trans HC4.out)
  have HSZ : Hid (W.heap.size + 1 < w2.heap.size) := Lib.hid HBO.out.lt
  have hrk : ∀ wr, Chg [W.heap.size + 1] w3 wr → ReadsN wr (.slice na ns.length nc) ns := fun wr hk => Reads.chg HRN.out hk (fun y hy hm => by have := HOB.out y hy; have := HSZ.out; simp at hm; omega)
  have HRK := Lib.hid hrk
  have HWR : Hid (∀ wr, Chg [W.heap.size + 1] w3 wr → Chg [] W wr) := Lib.hid (fun wr hk => HCW3.out.into hk (fun y hy => .inr (by simp at hy; omega)))
  clear hrk c0
  go_loopw [43] (fun q wr => ∃ (m : Nat) (a1 a2 : Int), m ≤ ns.length ∧ q = .int .i64 m ∧ Hid (foldW xa l (ns.take m) = (a1, a2)) ∧ Hid (Blk wr (W.heap.size + 1) #[.int .i64 a1, .int .i64 a2] 146) ∧ Hid (Chg [W.heap.size + 1] w3 wr)) (fun q _ => ns.length - (intOf q).toNat)
  case atStart => exact ⟨0, -1, -1, Nat.zero_le _, rfl, Lib.hid rfl, HBO3, Lib.hid (Chg.refl _ _)⟩
  case round =>
    obtain ⟨m, a1, a2, hm, rfl, HG, HBK, HJ⟩ := hrel
    by_cases hlm : m < ns.length
    · have HLM := Lib.hid hlm
      have mm : (m : Int) < (ns.length : Int) := by omega
      obtain ⟨t, htk⟩ : ∃ t, ns[m]? = some t := ⟨_, List.getElem?_eq_getElem hlm⟩
      obtain ⟨-, b4, o4, hx4, hc4⟩ := ints_at (HRK.out wr HJ.out)
      have g4 := hx4 m hlm
      have q4 := hc4 wr (Chg.refl _ _) m t htk
      have htr := HRG.out t (List.mem_of_getElem? htk)
      obtain ⟨k, rfl⟩ := Int.eq_ofNat_of_zero_le htr.1
      have hkl : k < l.length := by have := HAL.out; omega
      obtain ⟨⟨d1, d2⟩, hd⟩ : ∃ d, l[k]? = some d := ⟨_, List.getElem?_eq_getElem hkl⟩
      have g3 := HX3.out k hkl
      have HFS : Hid (foldW xa l (ns.take (m + 1)) = (best a1 (both xa d1), best a2 (both xa d2))) := Lib.hid (by rw [foldW_snoc xa l htk, HG.out]; unfold fold1; rw [wayAt_get hd])
      have HD := Lib.hid hd
      have k9 : IntKind.i64.wrap ((m : Int) + 1) = (m : Int) + 1 := by rw [IntKind.wrap_i64]; have := HNL.out; omega
      obtain ⟨y1, hy1⟩ : ∃ y, both xa d1 = y := ⟨_, rfl⟩
      obtain ⟨y2, hy2⟩ : ∃ y, both xa d2 = y := ⟨_, rfl⟩
      obtain ⟨n1, hn1⟩ : ∃ y, best a1 y1 = y := ⟨_, rfl⟩
      obtain ⟨n2, hn2⟩ : ∃ y, best a2 y2 = y := ⟨_, rfl⟩
      have HY1 := Lib.hid (fun V => by have h := both_any xa d1 V; rw [hy1] at h; exact h)
      have HY2 := Lib.hid (fun V => by have h := both_any xa d2 V; rw [hy2] at h; exact h)
      have HN1 := Lib.hid (fun (V : World) (hV : V.cell? ⟨bm, 3, none⟩ = some (.func (.func 126) #[] #[])) => by have h := best_any bm a1 y1 V hV; rw [hn1] at h; exact h)
      have HN2 := Lib.hid (fun (V : World) (hV : V.cell? ⟨bm, 3, none⟩ = some (.func (.func 126) #[] #[])) => by have h := best_any bm a2 y2 V hV; rw [hn2] at h; exact h)
      rw [hy1, hy2, hn1, hn2] at HFS
      have KEEP : Hid (∀ V, Chg [] wr V → (fun V : World => (V.cell? ⟨W.heap.size + 1, 0, none⟩ = some (.int .i64 a1) ∧ V.cell? ⟨W.heap.size + 1, 1, none⟩ = some (.int .i64 a2)) ∧ SC V b3 (o3 + k * 2) (d1, d2) ∧ V.cell? ⟨bm, 3, none⟩ = some (.func (.func 126) #[] #[]) ∧ Hid (Chg [] wr V)) V) := Lib.hid (fun V hV => ⟨⟨(HBK.out.keep hV (by simp)).cell rfl, (HBK.out.keep hV (by simp)).cell rfl⟩, HC3.out V ((HWR.out wr HJ.out).trans hV) k _ HD.out, ((HWR.out wr HJ.out).trans hV).keep HM.out.c3 (by simp), Lib.hid hV⟩)
      clear htk hlm hm hx4 hc4 htr hkl hd hy1 hy2 hn1 hn2
      go_wp2_with fail
      have hHeld : (fun V : World => (V.cell? ⟨W.heap.size + 1, 0, none⟩ = some (.int .i64 a1) ∧ V.cell? ⟨W.heap.size + 1, 1, none⟩ = some (.int .i64 a2)) ∧ SC V b3 (o3 + k * 2) (d1, d2) ∧ V.cell? ⟨bm, 3, none⟩ = some (.func (.func 126) #[] #[]) ∧ Hid (Chg [] wr V)) (World.drew wr) := KEEP.out _ (Chg.refl _ _).drew
      refine wp_region_planT (fun V : World => (V.cell? ⟨W.heap.size + 1, 0, none⟩ = some (.int .i64 a1) ∧ V.cell? ⟨W.heap.size + 1, 1, none⟩ = some (.int .i64 a2)) ∧ SC V b3 (o3 + k * 2) (d1, d2) ∧ V.cell? ⟨bm, 3, none⟩ = some (.func (.func 126) #[] #[]) ∧ Hid (Chg [] wr V)) 12 [(0, true, some 47), (1, true, some 48), (2, true, some 49), (3, true, some 50), (4, true, some 51), (5, true, some 52), (6, true, some 53), (7, true, some 54), (8, true, some 55), (9, false, some 56), (10, false, some 57), (11, true, some 58)] (by kernel_rfl) (by kernel_rfl) (by kernel_rfl) (by kernel_rfl) (by kernel_rfl) (fun d c a v w h => by cases d <;> exact h) hHeld ?_
      repeat (first
        | (refine planT_read (v := ?_) rfl rfl ?_ ?_ ?_; rotate_left; (focus rfl); (focus (intro u hSw; (try dsimp only at hSw); obtain ⟨⟨u0, u1⟩, ⟨u2, u3⟩, u4, -⟩ := hSw; (try simp only at u2 u3); go_simp; (try with_reducible rfl))); (try simp only [Act.put, List.setIfInBounds_toArray, List.set_cons_zero, List.set_cons_succ]))
        | (refine planT_skip rfl rfl ?_ ?_; (focus rfl); (try simp only [Act.put, List.setIfInBounds_toArray, List.set_cons_zero, List.set_cons_succ]))
        | (refine planT_do rfl rfl ?_ (fun K hK => ?_); (focus rfl); go_simp; (try go_wp2_with (first | (go_at_call 179; with_reducible refine (HY1.out _).mono ?_; rintro e w5 ⟨rfl, rfl⟩) | (go_at_call 178; with_reducible refine (HN1.out _ hHeld.2.2.1).mono ?_; rintro e w5 ⟨rfl, rfl⟩))); refine hK.out _ _ ?_ (fun hHeld2 => ?_); (focus exact hHeld); clear hK K hHeld; have hHeld := hHeld2; clear hHeld2; (try simp only [Act.put, List.setIfInBounds_toArray, List.set_cons_zero, List.set_cons_succ])))
      refine planT_last rfl rfl (fun K hK => ?_)
      have hbk := HBK.out.keep hHeld.2.2.2.out (by simp)
      have f0 := hbk.free 0
      have e0 := hHeld.1.1
      go_simp
      refine hK.out _ _ ?_
      have HBK4 : Hid (Blk ((wr.setCell ⟨W.heap.size + 1, 0, none⟩ (.int .i64 n1)).drew) (W.heap.size + 1) #[.int .i64 n1, .int .i64 a2] 146) := Lib.hid (HBK.out.set 0 (.int .i64 n1)).drew
      have HJ4 : Hid (Chg [W.heap.size + 1] w3 ((wr.setCell ⟨W.heap.size + 1, 0, none⟩ (.int .i64 n1)).drew)) := Lib.hid (HJ.out.setCell (.inl (by simp)) _).drew
      obtain ⟨w4, hw4⟩ : ∃ y, y = (wr.setCell ⟨W.heap.size + 1, 0, none⟩ (.int .i64 n1)).drew := ⟨_, rfl⟩
      rw [← hw4] at HBK4 HJ4
      try rw [← hw4]
      clear hw4 hK K hHeld hbk f0 e0 KEEP q4 g4
      have KEEP : Hid (∀ V, Chg [] w4 V → (fun V : World => (V.cell? ⟨W.heap.size + 1, 0, none⟩ = some (.int .i64 n1) ∧ V.cell? ⟨W.heap.size + 1, 1, none⟩ = some (.int .i64 a2)) ∧ SC V b3 (o3 + k * 2) (d1, d2) ∧ V.cell? ⟨bm, 3, none⟩ = some (.func (.func 126) #[] #[]) ∧ Hid (Chg [] w4 V)) V) := Lib.hid (fun V hV => ⟨⟨(HBK4.out.keep hV (by simp)).cell rfl, (HBK4.out.keep hV (by simp)).cell rfl⟩, HC3.out V ((HWR.out w4 HJ4.out).trans hV) k _ HD.out, ((HWR.out w4 HJ4.out).trans hV).keep HM.out.c3 (by simp), Lib.hid hV⟩)
      go_wp2_with fail
      have hHeld : (fun V : World => (V.cell? ⟨W.heap.size + 1, 0, none⟩ = some (.int .i64 n1) ∧ V.cell? ⟨W.heap.size + 1, 1, none⟩ = some (.int .i64 a2)) ∧ SC V b3 (o3 + k * 2) (d1, d2) ∧ V.cell? ⟨bm, 3, none⟩ = some (.func (.func 126) #[] #[]) ∧ Hid (Chg [] w4 V)) (World.drew w4) := KEEP.out _ (Chg.refl _ _).drew
      refine wp_region_planT (fun V : World => (V.cell? ⟨W.heap.size + 1, 0, none⟩ = some (.int .i64 n1) ∧ V.cell? ⟨W.heap.size + 1, 1, none⟩ = some (.int .i64 a2)) ∧ SC V b3 (o3 + k * 2) (d1, d2) ∧ V.cell? ⟨bm, 3, none⟩ = some (.func (.func 126) #[] #[]) ∧ Hid (Chg [] w4 V)) 12 [(0, true, some 59), (1, true, some 60), (2, true, some 61), (3, true, some 62), (4, true, some 63), (5, true, some 64), (6, true, some 65), (7, true, some 66), (8, true, some 67), (9, false, some 68), (10, false, some 69), (11, true, some 70)] (by kernel_rfl) (by kernel_rfl) (by kernel_rfl) (by kernel_rfl) (by kernel_rfl) (fun d c a v w h => by cases d <;> exact h) hHeld ?_
      repeat (first
        | (refine planT_read (v := ?_) rfl rfl ?_ ?_ ?_; rotate_left; (focus rfl); (focus (intro u hSw; (try dsimp only at hSw); obtain ⟨⟨u0, u1⟩, ⟨u2, u3⟩, u4, -⟩ := hSw; (try simp only at u2 u3); go_simp; (try with_reducible rfl))); (try simp only [Act.put, List.setIfInBounds_toArray, List.set_cons_zero, List.set_cons_succ]))
        | (refine planT_skip rfl rfl ?_ ?_; (focus rfl); (try simp only [Act.put, List.setIfInBounds_toArray, List.set_cons_zero, List.set_cons_succ]))
        | (refine planT_do rfl rfl ?_ (fun K hK => ?_); (focus rfl); go_simp; (try go_wp2_with (first | (go_at_call 179; with_reducible refine (HY2.out _).mono ?_; rintro e w5 ⟨rfl, rfl⟩) | (go_at_call 178; with_reducible refine (HN2.out _ hHeld.2.2.1).mono ?_; rintro e w5 ⟨rfl, rfl⟩))); refine hK.out _ _ ?_ (fun hHeld2 => ?_); (focus exact hHeld); clear hK K hHeld; have hHeld := hHeld2; clear hHeld2; (try simp only [Act.put, List.setIfInBounds_toArray, List.set_cons_zero, List.set_cons_succ])))
      refine planT_last rfl rfl (fun K hK => ?_)
      have hbk := HBK4.out.keep hHeld.2.2.2.out (by simp)
      have f0 := hbk.free 1
      have e0 := hHeld.1.2
      go_simp
      refine hK.out _ _ ?_
      have HBK5 : Hid (Blk ((w4.setCell ⟨W.heap.size + 1, 1, none⟩ (.int .i64 n2)).drew) (W.heap.size + 1) #[.int .i64 n1, .int .i64 n2] 146) := Lib.hid (HBK4.out.set 1 (.int .i64 n2)).drew
      have HJ5 : Hid (Chg [W.heap.size + 1] w3 ((w4.setCell ⟨W.heap.size + 1, 1, none⟩ (.int .i64 n2)).drew)) := Lib.hid (HJ4.out.setCell (.inl (by simp)) _).drew
      obtain ⟨w5, hw5⟩ : ∃ y, y = (w4.setCell ⟨W.heap.size + 1, 1, none⟩ (.int .i64 n2)).drew := ⟨_, rfl⟩
      rw [← hw5] at HBK5 HJ5
      try rw [← hw5]
      clear hw5 hK K hHeld hbk f0 e0 KEEP g3
      go_wp2_with fail
      have hlm := HLM.out
      go_roundw
      case rel => exact ⟨m + 1, n1, n2, by omega, by go_num, HFS, HBK5, HJ5⟩
      case measure => simp [intOf]; omega
    · obtain rfl : ns.length = m := by omega
      have mm : ¬ (ns.length : Int) < (ns.length : Int) := by omega
      rw [List.take_length] at HG
      clear hlm hm
      have e0 := HBK.out.cell (o := 0) (v := .int .i64 a1) rfl
      have e1 := HBK.out.cell (o := 1) (v := .int .i64 a2) rfl
      go_wp2_with (refine Go.Proofs.YtkedegbpkkgeaaaGreat.blk.wpList_store_blk rfl 146 (.tmp 6) (.tmp 72) rfl W.heap.size #[.int .i64 a1, .int .i64 a2] rfl rfl (HBR3.out.keep HJ.out (by simp)) szWay rfl (by simp [Value.oneCell']) ?_; intro w9 hb9 hc9; have HB9 := Lib.hid hb9; have HC9 := Lib.hid hc9; clear hb9 hc9)
      refine bodyPost_ret (results_row_one rfl _ _ W.heap.size 146 _ (0, 0) _ rfl HB9.out Tryz.underlying146 rfl szWay) rfl ?_
      exact ⟨by rw [HI2.out, HG.out]; rfl, (HWR.out wr HJ.out).into HC9.out (fun y hy => .inr (by simp at hy; omega))⟩
end Go.Proofs.YtkedegbpkkgeaaaGreat.tf
