import Derived.Test.YtkedegbpkkgeaaaGreatTop19
/- TopFits: the order, the ranks. -/
namespace Go.Proofs.YtkedegbpkkgeaaaGreat.tf
open Go Go.RowKit Go.Proofs.YtkedegbpkkgeaaaGreat.kit Go.Proofs.YtkedegbpkkgeaaaGreat.obj Go.Proofs.YtkedegbpkkgeaaaGreat.mem Go.Proofs.YtkedegbpkkgeaaaGreat.lay Go.Proofs.YtkedegbpkkgeaaaGreat.isa
set_option linter.unusedVariables false
set_option linter.unusedSimpArgs false
set_option maxRecDepth 20000

set_option maxHeartbeats 4000000 in
theorem stable_any (A g : Nat) (pa : Option Addr) (pc : Nat) (ps l : List Int) (n : Nat) (W : World) (hn : l.length = n) (hl : n ≤ 8) (hpl : Places l ps.length) (hb : InB W A l) (hk : ∀ V, Chg [A] W V → V.cell? ⟨g, 0, none⟩ = some (.slice pa ps.length pc) ∧ ReadsN V (.slice pa ps.length pc) ps) :
    Calls Tryz.prog 127 #[.slice (some ⟨A, 0, none⟩) n n, .int .i64 (n : Int), (.func (.func 106) #[] #[.pointer (some ⟨g, 0, none⟩)])] W fun e W' => e = .returned (.tuple #[]) ∧ InB W' A (sortM ps l n) ∧ Chg [A] W W' := by
  have HX := Lib.hid (isort_any A g pa pc ps l n W hn (by omega) hpl hb hk)
  have m1 : ¬ (20 : Int) ≤ (n : Int) := by omega
  have m2 : ¬ (20 : Int) < (n : Int) := by omega
  clear hn hl hpl hb hk
  go_enter Tryz.func127, Tryz.ntmps127
  go_wp2
  go_loopw [7, 8] (fun a b wr => a = .int .i64 0 ∧ b = .int .i64 20 ∧ W = wr) (fun _ _ _ => 0)
  case atStart => exact ⟨rfl, rfl, rfl⟩
  case round =>
    obtain ⟨rfl, rfl, rfl⟩ := hrel
    go_wp2_with (go_at_call 153; refine HX.out.mono ?_; rintro e w2 ⟨rfl, hb2, hc2⟩; have HB2 := Lib.hid hb2; have HC2 := Lib.hid hc2; clear hb2 hc2)
    go_loopw [6] (fun a wr => a = .int .i64 20 ∧ w2 = wr) (fun _ _ => 0)
    case atStart => exact ⟨rfl, rfl⟩
    case round =>
      obtain ⟨rfl, rfl⟩ := hrel
      go_wp2
      go_end0
      exact ⟨rfl, HB2.out, HC2.out⟩
theorem ssf_any (A g : Nat) (pa : Option Addr) (pc : Nat) (ps l : List Int) (n : Nat) (W : World) (hn : l.length = n) (hl : n ≤ 8) (hpl : Places l ps.length) (hb : InB W A l) (hk : ∀ V, Chg [A] W V → V.cell? ⟨g, 0, none⟩ = some (.slice pa ps.length pc) ∧ ReadsN V (.slice pa ps.length pc) ps) :
    Calls Tryz.prog 105 #[.slice (some ⟨A, 0, none⟩) n n, (.func (.func 106) #[] #[.pointer (some ⟨g, 0, none⟩)])] W fun e W' => e = .returned (.tuple #[]) ∧ InB W' A (sortM ps l n) ∧ Chg [A] W W' := by
  have HX := Lib.hid (stable_any A g pa pc ps l n W hn hl hpl hb hk)
  clear hn hl hpl hb hk
  go_enter Tryz.func105, Tryz.ntmps105
  go_wp2_with (go_at_call 127; refine HX.out.mono ?_; rintro e w2 ⟨rfl, hb2, hc2⟩; have HB2 := Lib.hid hb2; have HC2 := Lib.hid hc2; clear hb2 hc2)
  go_end0
  exact ⟨rfl, HB2.out, HC2.out⟩
theorem iota_set (m n : Nat) (h : m < n) : (((List.range m).map Int.ofNat) ++ List.replicate (n - m) 0).set m (m : Int) = ((List.range (m + 1)).map Int.ofNat) ++ List.replicate (n - (m + 1)) 0 := by
  obtain ⟨d, rfl⟩ : ∃ d, n = m + 1 + d := ⟨n - (m + 1), by omega⟩
  rw [show m + 1 + d - m = d + 1 by omega, show m + 1 + d - (m + 1) = d by omega, List.range_succ, List.map_append, List.append_assoc, List.replicate_succ, List.set_append_right _ _ (by simp)]
  simp
/-- a row of numbers, in a new block of its own -/
def NewB (B : Nat) (l : List Int) (e : Ending) (w : World) : Prop := ∃ A, e = .returned (.slice (some ⟨A, 0, none⟩) l.length l.length) ∧ InB w A l ∧ B ≤ A
theorem NewB.mk {B : Nat} {l : List Int} {e : Ending} {w : World} (A : Nat) (h : e = .returned (.slice (some ⟨A, 0, none⟩) l.length l.length)) (r : InB w A l) (hb : B ≤ A) : NewB B l e w := ⟨A, h, r, hb⟩
set_option maxHeartbeats 8000000 in
theorem order_any (pa : Option Addr) (pc : Nat) (ps : List Int) (W : World) (hr : ReadsN W (.slice pa ps.length pc) ps) (hl : ps.length ≤ 8) :
    Calls Tryz.prog 76 #[.slice pa ps.length pc] W fun e W' => NewB W.heap.size (orderM ps) e W' ∧ Chg [] W W' := by
  obtain ⟨n, hn⟩ : ∃ n, ps.length = n := ⟨_, rfl⟩
  have hmk := make_ints n (by omega)
  obtain ⟨zs, hzs⟩ : ∃ z, ((List.replicate n (0 : Int)).map (Value.int .i64)).toArray = z := ⟨_, rfl⟩
  have HZS := Lib.hid hzs
  rw [hzs] at hmk
  clear hzs
  have hmf : ∀ (fn : Fn) (first cap : Array Value) (w : World), (Instr.makeFunc fn first cap).run Tryz.prog w = .ok (.func fn first cap) w := fun _ _ _ _ => rfl
  have HR := Lib.hid hr
  have HN := Lib.hid (⟨hn, hl⟩ : _ ∧ _)
  have HCG : Hid (Chg [] W ((W.alloc (.cells #[.slice pa ps.length pc] 33)).alloc (.cells zs 3))) := Lib.hid (((Chg.refl [] W).alloc _).alloc _)
  have HBG : Hid (Blk ((W.alloc (.cells #[.slice pa ps.length pc] 33)).alloc (.cells zs 3)) W.heap.size #[.slice pa ps.length pc] 33) := Lib.hid ((Blk.new W _ _).alloc _)
  have HBA : Hid (Blk ((W.alloc (.cells #[.slice pa ps.length pc] 33)).alloc (.cells zs 3)) (W.heap.size + 1) zs 3) := Lib.hid (by
    have := Blk.new (W.alloc (.cells #[.slice pa ps.length pc] 33)) zs 3
    rwa [show (W.alloc (.cells #[.slice pa ps.length pc] 33)).heap.size = W.heap.size + 1 by simp] at this)
  rw [hn] at HCG HBG HBA ⊢
  clear hr hl hn
  go_enter Tryz.func76, Tryz.ntmps76
  go_wp2_with fail
  obtain ⟨w2, hw2⟩ : ∃ x, x = ((W.alloc (.cells #[.slice pa n pc] 33)).alloc (.cells zs 3)) := ⟨_, rfl⟩
  rw [← hw2] at HCG HBG HBA
  try rw [← hw2]
  clear hw2 hmk
  obtain ⟨A, hA⟩ : ∃ x, x = W.heap.size + 1 := ⟨_, rfl⟩
  rw [← hA] at HBA
  try rw [← hA]
  have HAA : Hid (A = W.heap.size + 1) := Lib.hid hA
  clear hA
  have HBA : Hid (InB w2 A (List.replicate n (0 : Int))) := Lib.hid (by unfold InB; rw [HZS.out]; exact HBA.out)
  have HWV : Hid (∀ V, Chg [A] w2 V → Chg [] W V) := Lib.hid (fun V hV => HCG.out.into hV (fun y hy => .inr (by have := HAA.out; simp at hy; omega)))
  go_loopw [10] (fun q wr => ∃ m : Nat, m ≤ n ∧ q = .int .i64 m ∧ Hid (InB wr A (((List.range m).map Int.ofNat) ++ List.replicate (n - m) 0)) ∧ Hid (Chg [A] w2 wr)) (fun q _ => n - (intOf q).toNat)
  case atStart => exact ⟨0, Nat.zero_le _, rfl, Lib.hid (by simpa using HBA.out), Lib.hid (Chg.refl _ _)⟩
  case round =>
    obtain ⟨m, hm, rfl, HAT, HJ⟩ := hrel
    by_cases hlm : m < n
    · have HLM := Lib.hid hlm
      have mm : (m : Int) < (n : Int) := by omega
      have g1 := idxN A n m hlm
      have hget : (((List.range m).map Int.ofNat) ++ List.replicate (n - m) (0 : Int))[m]? = some 0 := by
        rw [List.getElem?_append_right (by simp), List.getElem?_replicate, if_pos (by simp; omega)]
      have q0 := HAT.out.at hget
      have f0 := Blk.free HAT.out m
      have HAT2 : Hid (InB (wr.setCell ⟨A, m, none⟩ (.int .i64 (m : Int))) A (((List.range (m + 1)).map Int.ofNat) ++ List.replicate (n - (m + 1)) 0)) := Lib.hid (by rw [← iota_set m n hlm]; exact HAT.out.put m (m : Int))
      have HJ2 : Hid (Chg [A] w2 (wr.setCell ⟨A, m, none⟩ (.int .i64 (m : Int)))) := Lib.hid (HJ.out.setCell (.inl (by simp)) _)
      have k9 : IntKind.i64.wrap ((m : Int) + 1) = (m : Int) + 1 := by rw [IntKind.wrap_i64]; have := HN.out; omega
      clear hget hlm hm
      go_wp2_with fail
      have hlm := HLM.out
      go_roundw
      case rel => exact ⟨m + 1, by omega, by go_num, HAT2, HJ2⟩
      case measure => simp [intOf]; omega
    · obtain rfl : n = m := by omega
      have mm : ¬ (n : Int) < (n : Int) := by omega
      clear hlm hm
      have HAT3 : Hid (InB wr A ((List.range n).map Int.ofNat)) := Lib.hid (by simpa using HAT.out)
      have HSO := Lib.hid (ssf_any A W.heap.size pa pc ps ((List.range n).map Int.ofNat) n wr (by simp) (by have := HN.out; omega) (fun x hx => by
          simp at hx
          obtain ⟨k, hk, rfl⟩ := hx
          rw [HN.out.1]
          show 0 ≤ (k : Int) ∧ (k : Int) < _
          omega) HAT3.out (fun V hV => ⟨by
            have h := ((HBG.out.keep HJ.out (by have := HAA.out; simp; omega)).keep hV (by have := HAA.out; simp; omega)).cell (o := 0) rfl
            rw [HN.out.1]; exact h, HR.out.chg (HWV.out V (HJ.out.trans hV))⟩))
      go_wp2_with (go_at_call 105; refine HSO.out.mono ?_; rintro e w3 ⟨rfl, hb3, hc3⟩; have HB3 := Lib.hid hb3; have HC3 := Lib.hid hc3; clear hb3 hc3)
      have hlen := order_len ps
      have hE : sortM ps ((List.range n).map Int.ofNat) n = orderM ps := by unfold orderM; rw [HN.out.1]
      go_ret
      exact ⟨.mk A (by rw [hlen, HN.out.1]; rfl) (by rw [← hE]; exact HB3.out) (by have := HAA.out; omega), HWV.out _ (HJ.out.trans HC3.out)⟩
/-- the ranks of so many -/
def rkT (ps : List Int) (m : Nat) : List Int := (List.range m).foldl (fun r (k : Nat) => r.set ((orderM ps).getD k 0).toNat (k : Int)) (List.replicate ps.length 0)
theorem rkT_succ (ps : List Int) (m : Nat) : rkT ps (m + 1) = (rkT ps m).set ((orderM ps).getD m 0).toNat (m : Int) := by unfold rkT; rw [List.range_succ, List.foldl_append]; rfl
theorem rkT_len (ps : List Int) : ∀ m, (rkT ps m).length = ps.length
  | 0 => by simp [rkT]
  | m + 1 => by rw [rkT_succ, List.length_set, rkT_len ps m]
theorem ranks_len (ps : List Int) : (ranksM ps).length = ps.length := rkT_len ps ps.length
set_option maxHeartbeats 8000000 in
theorem branks_any (pa : Option Addr) (pc : Nat) (ps : List Int) (W : World) (hr : ReadsN W (.slice pa ps.length pc) ps) (hl : ps.length ≤ 8) :
    Calls Tryz.prog 39 #[.slice pa ps.length pc] W fun e W' => NewB W.heap.size (ranksM ps) e W' ∧ Chg [] W W' := by
  obtain ⟨n, hn⟩ : ∃ n, ps.length = n := ⟨_, rfl⟩
  have hmk := make_ints n (by omega)
  obtain ⟨zs, hzs⟩ : ∃ z, ((List.replicate n (0 : Int)).map (Value.int .i64)).toArray = z := ⟨_, rfl⟩
  have HZS := Lib.hid hzs
  rw [hzs] at hmk
  clear hzs
  have HN := Lib.hid (⟨hn, hl⟩ : _ ∧ _)
  have HCG : Hid (Chg [] W (W.alloc (.cells zs 3))) := Lib.hid ((Chg.refl [] W).alloc _)
  have HBA : Hid (InB (W.alloc (.cells zs 3)) W.heap.size (List.replicate n (0 : Int))) := Lib.hid (by unfold InB; rw [HZS.out]; exact Blk.new W zs 3)
  have HOR := Lib.hid (order_any pa pc ps _ (hr.chg HCG.out) hl)
  have hol := order_len ps
  have hop := order_places ps
  have h0 : rkT ps 0 = List.replicate n (0 : Int) := by unfold rkT; rw [hn]; rfl
  have HE : Hid (rkT ps n = ranksM ps) := Lib.hid (by rw [← hn]; rfl)
  have hs := rkT_succ ps
  have hlen := rkT_len ps
  obtain ⟨R, hR⟩ : ∃ R, ranksM ps = R := ⟨_, rfl⟩
  obtain ⟨F, hF⟩ : ∃ F, rkT ps = F := ⟨_, rfl⟩
  obtain ⟨os, ho⟩ : ∃ l, orderM ps = l := ⟨_, rfl⟩
  have hRl : R.length = n := by rw [← hR, ranks_len, hn]
  simp only [hF, ho] at hs hlen h0 HE hol hop HOR
  rw [hR] at HE ⊢
  rw [hn] at HOR hol hop ⊢
  rw [← h0] at HBA
  have HS := Lib.hid hs
  have HOL := Lib.hid hol
  have HOP := Lib.hid hop
  have HRL := Lib.hid hRl
  have HLN : Hid (∀ m, (F m).length = n) := Lib.hid (fun m => by rw [hlen, hn])
  clear hr hl hn hol hop h0 hs hR hF ho hRl hlen
  go_enter Tryz.func39, Tryz.ntmps39
  go_wp2_with (go_at_call 76; refine HOR.out.mono ?_; rintro e w2 ⟨⟨B, rfl, hB, hBB⟩, hc2⟩; have HBO := Lib.hid hB; have HBB := Lib.hid hBB; have HC2 := Lib.hid hc2; have HBA2 := Lib.hid (HBA.out.keep hc2 (by simp)); rw [HOL.out]; clear hB hc2 hBB)
  obtain ⟨A, hA⟩ : ∃ x, x = W.heap.size := ⟨_, rfl⟩
  rw [← hA] at HBA2
  try rw [← hA]
  have HAA : Hid (A = W.heap.size ∧ A < B) := Lib.hid ⟨hA, by have h := HBB.out; simp at h; omega⟩
  clear hmk HBA HOR
  have HWV : Hid (∀ V, Chg [A] w2 V → Chg [] W V) := Lib.hid (fun V hV => (HCG.out.trans HC2.out).into hV (fun y hy => .inr (by have := HAA.out; simp at hy; omega)))
  clear hA
  go_loopw [12] (fun q wr => ∃ m : Nat, m ≤ n ∧ q = .int .i64 m ∧ Hid (InB wr A (F m)) ∧ Hid (Chg [A] w2 wr)) (fun q _ => n - (intOf q).toNat)
  case atStart => exact ⟨0, Nat.zero_le _, rfl, HBA2, Lib.hid (Chg.refl _ _)⟩
  case round =>
    obtain ⟨m, hm, rfl, HAT, HJ⟩ := hrel
    by_cases hlm : m < n
    · have HLM := Lib.hid hlm
      have mm : (m : Int) < (n : Int) := by omega
      have g1 := idxN B n m hlm
      obtain ⟨x, hx, hxn⟩ := HOP.out.at (j := m) (by rw [HOL.out]; exact hlm)
      have c1 := (HBO.out.keep HJ.out (by have := HAA.out; simp; omega)).at hx
      have g2 := idxN A n x hxn
      have hS := HS.out m
      rw [show (os.getD m 0).toNat = x by rw [List.getD_eq_getElem?_getD, hx]; rfl] at hS
      have q0 := HAT.out.at (List.getElem?_eq_getElem (show x < (F m).length by rw [HLN.out]; exact hxn))
      have f0 := Blk.free HAT.out x
      have HAT2 : Hid (InB (wr.setCell ⟨A, x, none⟩ (.int .i64 (m : Int))) A (F (m + 1))) := Lib.hid (by rw [hS]; exact HAT.out.put x (m : Int))
      have HJ2 : Hid (Chg [A] w2 (wr.setCell ⟨A, x, none⟩ (.int .i64 (m : Int)))) := Lib.hid (HJ.out.setCell (.inl (by simp)) _)
      have k9 : IntKind.i64.wrap ((m : Int) + 1) = (m : Int) + 1 := by rw [IntKind.wrap_i64]; have := HN.out; omega
      obtain ⟨qv, hqv⟩ : ∃ z, (F m)[x]'(by rw [HLN.out]; exact hxn) = z := ⟨_, rfl⟩
      rw [hqv] at q0
      clear hlm hm hS hx hxn hqv
      go_wp2_with fail
      have hlm := HLM.out
      go_roundw
      case rel => exact ⟨m + 1, by omega, by go_num, HAT2, HJ2⟩
      case measure => simp [intOf]; omega
    · obtain rfl : n = m := by omega
      have mm : ¬ (n : Int) < (n : Int) := by omega
      clear hlm hm
      go_wp2_with fail
      go_ret
      exact ⟨.mk A (by rw [HRL.out]; rfl) (by rw [← HE.out]; exact HAT.out) (by have := HAA.out; omega), HWV.out _ HJ.out⟩
theorem tranks_any (ta : Option Addr) (tc : Nat) (ts : List DT) (W : World) (hT : ReadsDT W (.slice ta ts.length tc) ts) (hl : ts.length ≤ 8) :
    Calls Tryz.prog 16 #[.slice ta ts.length tc] W fun e W' => NewB W.heap.size (ranksM (ts.map (fun d => d.t.prio))) e W' ∧ Chg [] W W' := by
  have HP := Lib.hid (prios_any ta tc ts W hT (by omega))
  obtain ⟨ps, hps⟩ : ∃ l, ts.map (fun d => d.t.prio) = l := ⟨_, rfl⟩
  have HL : Hid (ps.length ≤ 8) := Lib.hid (by rw [← hps, List.length_map]; exact hl)
  rw [hps] at HP ⊢
  clear hT hl hps
  go_enter Tryz.func16, Tryz.ntmps16
  go_wp2_with (first
    | (go_at_call 40; refine HP.out.mono ?_; rintro e w2 ⟨⟨a, c, rfl, hr, -⟩, hc2⟩; have HBR := Lib.hid (branks_any a c ps w2 hr HL.out); have HC2 := Lib.hid hc2; clear hr hc2)
    | (go_at_call 39; refine HBR.out.mono ?_; rintro e w3 ⟨⟨A, rfl, hA, hAA⟩, hc3⟩; have HA := Lib.hid hA; have HAA := Lib.hid hAA; have HC3 := Lib.hid hc3; clear hA hAA hc3))
  go_ret
  exact ⟨.mk A rfl HA.out (Nat.le_trans HC2.out.size HAA.out), HC2.out.trans HC3.out⟩
end Go.Proofs.YtkedegbpkkgeaaaGreat.tf
/- TopFits: interfere: ahead, Hopeless. -/
namespace Go.Proofs.YtkedegbpkkgeaaaGreat.tf
open Go Go.RowKit Go.Proofs.YtkedegbpkkgeaaaGreat.kit Go.Proofs.YtkedegbpkkgeaaaGreat.obj Go.Proofs.YtkedegbpkkgeaaaGreat.mem Go.Proofs.YtkedegbpkkgeaaaGreat.lay Go.Proofs.YtkedegbpkkgeaaaGreat.isa
set_option linter.unusedVariables false
set_option linter.unusedSimpArgs false
set_option maxRecDepth 20000

set_option maxHeartbeats 2000000 in
theorem iahead_any (ta : Option Addr) (tc : Nat) (oa : Option Addr) (oc : Nat) (ts : List DT) (os : List DO) (i kk : Nat) (W : World) (h : SysOK W ta tc oa oc ts os) (hi : i < ts.length) (hk : kk < os.length) :
    Calls Tryz.prog 15 #[.agg #[.slice ta ts.length tc, .slice oa os.length oc], .int .i64 (i : Int), .int .i64 (kk : Int)] W fun e W' => e = .returned (.bool (aheadM (sys ts os) ((sys ts os).o kk).wr i)) ∧ Chg [] W W' := by
  obtain ⟨d, hd⟩ : ∃ d, os[kk]? = some d := ⟨_, List.getElem?_eq_getElem hk⟩
  obtain ⟨a, ha, hat⟩ := h.wr hd
  have hl := h.lens
  obtain ⟨-, b2, o2, hx2, hc2⟩ := objs_at h.O
  have g1 := hx2 kk hk
  have HQ : Hid (∀ V, Chg [] W V → V.cell? ⟨b2, o2 + kk * 8 + 6, none⟩ = some (.int .i64 (a : Int))) := Lib.hid (fun V hV => by have := (hc2 V hV kk d hd).2.2.2.1; rwa [ha] at this)
  have hah := fun V (hV : Chg [] W V) => ahead_any ta tc ts os a i V (h.T.chg hV) hat hi (by omega)
  have hwr : ((sys ts os).o kk).wr = (a : Int) := by rw [sys_o ts hd]; exact ha
  rw [hwr]
  obtain ⟨R, hR⟩ : ∃ R, aheadM (sys ts os) (a : Int) i = R := ⟨_, rfl⟩
  rw [hR] at hah ⊢
  have HAH := Lib.hid hah
  have HC1 : Hid (Chg [] W (W.alloc (.cells #[.slice ta ts.length tc, .slice oa os.length oc] 25))) := Lib.hid ((Chg.refl [] W).alloc _)
  have HBS : Hid (Blk (W.alloc (.cells #[.slice ta ts.length tc, .slice oa os.length oc] 25)) W.heap.size #[.slice ta ts.length tc, .slice oa os.length oc] 25) := Lib.hid (Blk.new W _ _)
  clear h hi hk hd ha hat hl hx2 hc2 hah hwr hR
  go_enter Tryz.func15, Tryz.ntmps15
  go_wp2_with fail
  obtain ⟨w1, hw1⟩ : ∃ x, x = (W.alloc (.cells #[.slice ta ts.length tc, .slice oa os.length oc] 25)) := ⟨_, rfl⟩
  rw [← hw1] at HC1 HBS
  try rw [← hw1]
  clear hw1
  have KEEP : Hid (∀ V, Chg [] w1 V → (fun V : World => (V.cell? ⟨W.heap.size, 0, none⟩ = some (.slice ta ts.length tc) ∧ V.cell? ⟨W.heap.size, 1, none⟩ = some (.slice oa os.length oc)) ∧ V.cell? ⟨b2, o2 + kk * 8 + 6, none⟩ = some (.int .i64 (a : Int)) ∧ Hid (Chg [] w1 V)) V) := Lib.hid (fun V hV => ⟨⟨(HBS.out.keep hV (by simp)).cell rfl, (HBS.out.keep hV (by simp)).cell rfl⟩, HQ.out V (HC1.out.trans hV), Lib.hid hV⟩)
  have hHeld : (fun V : World => (V.cell? ⟨W.heap.size, 0, none⟩ = some (.slice ta ts.length tc) ∧ V.cell? ⟨W.heap.size, 1, none⟩ = some (.slice oa os.length oc)) ∧ V.cell? ⟨b2, o2 + kk * 8 + 6, none⟩ = some (.int .i64 (a : Int)) ∧ Hid (Chg [] w1 V)) (World.drew w1) := KEEP.out _ (Chg.refl _ _).drew
  refine wp_region_plan (fun V : World => (V.cell? ⟨W.heap.size, 0, none⟩ = some (.slice ta ts.length tc) ∧ V.cell? ⟨W.heap.size, 1, none⟩ = some (.slice oa os.length oc)) ∧ V.cell? ⟨b2, o2 + kk * 8 + 6, none⟩ = some (.int .i64 (a : Int)) ∧ Hid (Chg [] w1 V)) [(0, true, some 7), (1, true, some 8), (2, true, some 9), (3, true, some 10), (4, true, some 11), (5, true, some 12), (6, true, some 13), (7, true, some 14), (8, true, some 15), (9, false, some 16), (10, true, some 6)] (by kernel_rfl) (by kernel_rfl) (by kernel_rfl) (by kernel_rfl) (fun d c a v w h => by cases d <;> exact h) hHeld ?_
  repeat (first
    | (refine planWp_read (v := ?_) rfl rfl ?_ ?_ ?_; rotate_left; (focus rfl); (focus (intro u hSw; (try dsimp only at hSw); obtain ⟨⟨u0, u1⟩, u2, -⟩ := hSw; go_simp; (try with_reducible rfl))); (try simp only [Act.put, List.setIfInBounds_toArray, List.set_cons_zero, List.set_cons_succ]))
    | (refine planWp_skip rfl rfl ?_ ?_; (focus rfl); (try simp only [Act.put, List.setIfInBounds_toArray, List.set_cons_zero, List.set_cons_succ]))
    | (refine planWp_leave rfl rfl ?_ hHeld ?_; (focus rfl); (try simp only [Act.put, List.setIfInBounds_toArray, List.set_cons_zero, List.set_cons_succ]))
    | (refine planWp_do rfl rfl ?_ (fun K hK => ?_); (focus rfl); go_simp; (try go_wp2_with (go_at_call 38; refine (HAH.out _ (HC1.out.trans hHeld.2.2.out)).mono ?_; rintro e w4 ⟨rfl, hc4⟩; have HCX := Lib.hid hc4; clear hc4)); refine hK.out _ _ ?_ (fun hHeld2 => ?_); (focus exact KEEP.out _ (hHeld.2.2.out.trans HCX.out)); clear hK K hHeld; have hHeld := hHeld2; clear hHeld2; (try simp only [Act.put, List.setIfInBounds_toArray, List.set_cons_zero, List.set_cons_succ])))
  refine planWp_nil ?_
  obtain ⟨-, -, hcz⟩ := hHeld
  clear KEEP
  go_wp2
  go_ret
  exact ⟨rfl, HC1.out.trans hcz.out⟩
set_option maxHeartbeats 2000000 in
theorem hopeless_any (ta : Option Addr) (tc : Nat) (oa : Option Addr) (oc : Nat) (ts : List DT) (os : List DO) (i kk : Nat) (W : World) (h : SysOK W ta tc oa oc ts os) (hi : i < ts.length) (hk : kk < os.length) :
    Calls Tryz.prog 7 #[.agg #[.slice ta ts.length tc, .slice oa os.length oc], .int .i64 (i : Int), .int .i64 (kk : Int)] W fun e W' => e = .returned (.bool (hopeM (sys ts os) i kk)) ∧ Chg [] W W' := by
  obtain ⟨d, hd⟩ : ∃ d, os[kk]? = some d := ⟨_, List.getElem?_eq_getElem hk⟩
  obtain ⟨-, b2, o2, hx2, hc2⟩ := objs_at h.O
  have g1 := hx2 kk hk
  have HC1 : Hid (Chg [] W (W.alloc (.cells #[.slice ta ts.length tc, .slice oa os.length oc] 25))) := Lib.hid ((Chg.refl [] W).alloc _)
  have HBS : Hid (Blk (W.alloc (.cells #[.slice ta ts.length tc, .slice oa os.length oc] 25)) W.heap.size #[.slice ta ts.length tc, .slice oa os.length oc] 25) := Lib.hid (Blk.new W _ _)
  have hre := fun V (hV : Chg [] W V) => reads_any ta tc oa oc ts os i kk V (h.chg hV) hi hk
  have hia := fun V (hV : Chg [] W V) => iahead_any ta tc oa oc ts os i kk V (h.chg hV) hi hk
  obtain ⟨k, hkk⟩ : ∃ x, d.o.k = x := ⟨_, rfl⟩
  have HQ : Hid (∀ V, Chg [] W V → V.cell? ⟨b2, o2 + kk * 8, none⟩ = some (.int .i64 k)) := Lib.hid (fun V hV => by have := (hc2 V hV kk d hd).1.1; rwa [hkk] at this)
  obtain ⟨R, hR⟩ : ∃ R, hopeM (sys ts os) i kk = R := ⟨_, rfl⟩
  rw [hR]
  unfold hopeM at hR
  have hk2 : ((sys ts os).o kk).k = k := by rw [sys_o ts hd]; exact hkk
  rw [hk2] at hR
  obtain ⟨re, hree⟩ : ∃ x, readsM (sys ts os) i kk = x := ⟨_, rfl⟩
  obtain ⟨ah, hahh⟩ : ∃ x, aheadM (sys ts os) ((sys ts os).o kk).wr i = x := ⟨_, rfl⟩
  rw [hree] at hre hR
  rw [hahh] at hia hR
  have HRE := Lib.hid hre
  have HIA := Lib.hid hia
  clear h hi hk hd hx2 hc2 hre hia hkk hk2 hree hahh
  cases re
  · obtain rfl : false = R := by rw [← hR]; rfl
    clear hR
    go_enter Tryz.func7, Tryz.ntmps7
    go_wp2_with (go_at_call 14; refine (HRE.out _ HC1.out).mono ?_; rintro e w2 ⟨rfl, hc2⟩; have s0 := (HBS.out.keep hc2 (by simp)).cell (o := 0) (v := .slice ta ts.length tc) rfl; have s1 := (HBS.out.keep hc2 (by simp)).cell (o := 1) (v := .slice oa os.length oc) rfl; have HC2 := Lib.hid (HC1.out.trans hc2); have q0 := HQ.out w2 HC2.out; clear hc2)
    go_ret
    exact ⟨rfl, HC2.out⟩
  by_cases c1 : k = 3
  · subst c1
    rw [decide_eq_true rfl] at hR
    cases ah
    · obtain rfl : true = R := by rw [← hR]; rfl
      clear hR
      go_enter Tryz.func7, Tryz.ntmps7
      go_wp2_with (first | (go_at_call 14; refine (HRE.out _ HC1.out).mono ?_; rintro e w2 ⟨rfl, hc2⟩; have s0 := (HBS.out.keep hc2 (by simp)).cell (o := 0) (v := .slice ta ts.length tc) rfl; have s1 := (HBS.out.keep hc2 (by simp)).cell (o := 1) (v := .slice oa os.length oc) rfl; have HC2 := Lib.hid (HC1.out.trans hc2); have q0 := HQ.out w2 HC2.out; clear hc2) | (go_at_call 15; refine (HIA.out _ HC2.out).mono ?_; rintro e w3 ⟨rfl, hc3⟩; have HC3 := Lib.hid (HC2.out.trans hc3); clear hc3))
      go_ret
      exact ⟨rfl, HC3.out⟩
    · obtain rfl : false = R := by rw [← hR]; rfl
      clear hR
      go_enter Tryz.func7, Tryz.ntmps7
      go_wp2_with (first | (go_at_call 14; refine (HRE.out _ HC1.out).mono ?_; rintro e w2 ⟨rfl, hc2⟩; have s0 := (HBS.out.keep hc2 (by simp)).cell (o := 0) (v := .slice ta ts.length tc) rfl; have s1 := (HBS.out.keep hc2 (by simp)).cell (o := 1) (v := .slice oa os.length oc) rfl; have HC2 := Lib.hid (HC1.out.trans hc2); have q0 := HQ.out w2 HC2.out; clear hc2) | (go_at_call 15; refine (HIA.out _ HC2.out).mono ?_; rintro e w3 ⟨rfl, hc3⟩; have HC3 := Lib.hid (HC2.out.trans hc3); clear hc3))
      go_ret
      exact ⟨rfl, HC3.out⟩
  · have d1 : (k == 3) = false := by simpa using c1
    rw [decide_eq_false c1] at hR
    obtain rfl : false = R := by rw [← hR]; rfl
    clear hR c1
    go_enter Tryz.func7, Tryz.ntmps7
    go_wp2_with (go_at_call 14; refine (HRE.out _ HC1.out).mono ?_; rintro e w2 ⟨rfl, hc2⟩; have s0 := (HBS.out.keep hc2 (by simp)).cell (o := 0) (v := .slice ta ts.length tc) rfl; have s1 := (HBS.out.keep hc2 (by simp)).cell (o := 1) (v := .slice oa os.length oc) rfl; have HC2 := Lib.hid (HC1.out.trans hc2); have q0 := HQ.out w2 HC2.out; clear hc2)
    go_ret
    exact ⟨rfl, HC2.out⟩
end Go.Proofs.YtkedegbpkkgeaaaGreat.tf
/- TopFits: interfere: Writes. -/
namespace Go.Proofs.YtkedegbpkkgeaaaGreat.tf
open Go Go.RowKit Go.Proofs.YtkedegbpkkgeaaaGreat.kit Go.Proofs.YtkedegbpkkgeaaaGreat.obj Go.Proofs.YtkedegbpkkgeaaaGreat.mem Go.Proofs.YtkedegbpkkgeaaaGreat.lay Go.Proofs.YtkedegbpkkgeaaaGreat.isa
set_option linter.unusedVariables false
set_option linter.unusedSimpArgs false
set_option maxRecDepth 20000

set_option maxHeartbeats 4000000 in
theorem iwrites_any (ta : Option Addr) (tc : Nat) (oa : Option Addr) (oc : Nat) (ts : List DT) (os : List DO) (i kk : Nat) (r : Int) (W : World) (h : SysOK W ta tc oa oc ts os) (hi : i < ts.length) (hk : kk < os.length) (hr64 : r ≤ 9223372036854775807) :
    Calls Tryz.prog 52 #[.agg #[.slice ta ts.length tc, .slice oa os.length oc], .int .i64 (i : Int), .int .i64 (kk : Int), .int .i64 r] W fun e W' => e = .returned (.int .i64 (wrM (sys ts os) i kk r)) ∧ Chg [] W W' := by
  obtain ⟨d, hd⟩ : ∃ d, os[kk]? = some d := ⟨_, List.getElem?_eq_getElem hk⟩
  obtain ⟨a, ha, hat⟩ := h.wr hd
  obtain ⟨dt, hdt⟩ : ∃ d, ts[a]? = some d := ⟨_, List.getElem?_eq_getElem hat⟩
  obtain ⟨-, b2, o2, hx2, hc2⟩ := objs_at h.O
  obtain ⟨-, b1, o1, hx1, hc1⟩ := tasks_at h.T
  have hl := h.lens
  have g1 := hx2 kk hk
  have g2 := hx1 a hat
  have HC1 : Hid (Chg [] W (W.alloc (.cells #[.slice ta ts.length tc, .slice oa os.length oc] 25))) := Lib.hid ((Chg.refl [] W).alloc _)
  have HBS : Hid (Blk (W.alloc (.cells #[.slice ta ts.length tc, .slice oa os.length oc] 25)) W.heap.size #[.slice ta ts.length tc, .slice oa os.length oc] 25) := Lib.hid (Blk.new W _ _)
  have hre := fun V (hV : Chg [] W V) => reads_any ta tc oa oc ts os i kk V (h.chg hV) hi hk
  have hia := fun V (hV : Chg [] W V) => iahead_any ta tc oa oc ts os i kk V (h.chg hV) hi hk
  have hdw := fun V (hV : Chg [] W V) => dwrites_any ta tc oa oc ts os a kk V (h.T.chg hV) (h.O.chg hV) dt hdt hk (by omega) (h.code hdt)
  obtain ⟨pe, hpe⟩ : ∃ x, dt.t.period = x := ⟨_, rfl⟩
  have HQ6 : Hid (∀ V, Chg [] W V → V.cell? ⟨b2, o2 + kk * 8 + 6, none⟩ = some (.int .i64 (a : Int))) := Lib.hid (fun V hV => by have := (hc2 V hV kk d hd).2.2.2.1; rwa [ha] at this)
  have HQ2 : Hid (∀ V, Chg [] W V → V.cell? ⟨b1, o1 + a * 7 + 2, none⟩ = some (.int .i64 pe)) := Lib.hid (fun V hV => by have := (hc1 V hV a dt hdt).1.2.2.1; rwa [hpe] at this)
  obtain ⟨R, hR⟩ : ∃ R, wrM (sys ts os) i kk r = R := ⟨_, rfl⟩
  rw [hR]
  unfold wrM at hR
  have hw2 : ((sys ts os).o kk).wr = (a : Int) := by rw [sys_o ts hd]; exact ha
  have hp2 : ((sys ts os).t (a : Int)).period = pe := by rw [sys_t os hdt]; exact hpe
  rw [hw2] at hR hia
  rw [hp2] at hR
  obtain ⟨re, hree⟩ : ∃ x, readsM (sys ts os) i kk = x := ⟨_, rfl⟩
  obtain ⟨ah, hahh⟩ : ∃ x, aheadM (sys ts os) (a : Int) i = x := ⟨_, rfl⟩
  obtain ⟨cn, hcn⟩ : ∃ x, countM (sys ts os) (a : Int) kk [18, 19] = x := ⟨_, rfl⟩
  rw [hree] at hre hR
  rw [hahh] at hia hR
  rw [hcn] at hdw hR
  have HRE := Lib.hid hre
  have HIA := Lib.hid hia
  have HDW := Lib.hid hdw
  have HCE := Lib.hid (fun V => Go.Proofs.YtkedegbpkkgeaaaGreat.word.Ceil_any r pe V hr64)
  have HMU := Lib.hid (fun V => Go.Proofs.YtkedegbpkkgeaaaGreat.word.Mul_any (word.ceil r pe) cn V)
  clear h hi hk hd hdt hat ha hl hx1 hx2 hc1 hc2 hre hia hdw hpe hw2 hp2 hree hahh hcn hr64
  cases re
  · obtain rfl : 0 = R := by rw [← hR]; rfl
    clear hR
    go_enter Tryz.func52, Tryz.ntmps52
    go_wp2_with (go_at_call 14; refine (HRE.out _ HC1.out).mono ?_; rintro e w2 ⟨rfl, hc2⟩; have s0 := (HBS.out.keep hc2 (by simp)).cell (o := 0) (v := .slice ta ts.length tc) rfl; have s1 := (HBS.out.keep hc2 (by simp)).cell (o := 1) (v := .slice oa os.length oc) rfl; have HK2 := Lib.hid hc2; have HC2 := Lib.hid (HC1.out.trans hc2); clear hc2)
    go_ret
    exact ⟨rfl, HC2.out⟩
  cases ah
  · obtain rfl : 0 = R := by rw [← hR]; rfl
    clear hR
    go_enter Tryz.func52, Tryz.ntmps52
    go_wp2_with (first | (go_at_call 14; refine (HRE.out _ HC1.out).mono ?_; rintro e w2 ⟨rfl, hc2⟩; have s0 := (HBS.out.keep hc2 (by simp)).cell (o := 0) (v := .slice ta ts.length tc) rfl; have s1 := (HBS.out.keep hc2 (by simp)).cell (o := 1) (v := .slice oa os.length oc) rfl; have HK2 := Lib.hid hc2; have HC2 := Lib.hid (HC1.out.trans hc2); clear hc2) | (go_at_call 15; refine (HIA.out _ HC2.out).mono ?_; rintro e w3 ⟨rfl, hc3⟩; have hk3 := HK2.out.trans hc3; have s0 := (HBS.out.keep hk3 (by simp)).cell (o := 0) (v := .slice ta ts.length tc) rfl; have s1 := (HBS.out.keep hk3 (by simp)).cell (o := 1) (v := .slice oa os.length oc) rfl; have HK3 := Lib.hid hk3; have HC3 := Lib.hid (HC2.out.trans hc3); clear hc3 hk3))
    go_ret
    exact ⟨rfl, HC3.out⟩
  have hR2 : word.mulT (word.ceil r pe) cn = R := by rw [← hR]; rfl
  obtain ⟨ce, hce⟩ : ∃ x, word.ceil r pe = x := ⟨_, rfl⟩
  rw [hce] at HCE HMU hR2
  rw [hR2] at HMU
  clear hR hR2 hce
  go_enter Tryz.func52, Tryz.ntmps52
  go_upto_region 3 with (first | (go_at_call 14; refine (HRE.out _ HC1.out).mono ?_; rintro e w2 ⟨rfl, hc2⟩; have s0 := (HBS.out.keep hc2 (by simp)).cell (o := 0) (v := .slice ta ts.length tc) rfl; have s1 := (HBS.out.keep hc2 (by simp)).cell (o := 1) (v := .slice oa os.length oc) rfl; have HK2 := Lib.hid hc2; have HC2 := Lib.hid (HC1.out.trans hc2); clear hc2) | (go_at_call 15; refine (HIA.out _ HC2.out).mono ?_; rintro e w3 ⟨rfl, hc3⟩; have hk3 := HK2.out.trans hc3; have s0 := (HBS.out.keep hk3 (by simp)).cell (o := 0) (v := .slice ta ts.length tc) rfl; have s1 := (HBS.out.keep hk3 (by simp)).cell (o := 1) (v := .slice oa os.length oc) rfl; have HK3 := Lib.hid hk3; have HC3 := Lib.hid (HC2.out.trans hc3); clear hc3 hk3))
  have q6 := HQ6.out w3 HC3.out
  go_upto_region 4 with fail
  have KEEP : Hid (∀ V, Chg [] w3 V → (fun V : World => (V.cell? ⟨W.heap.size, 0, none⟩ = some (.slice ta ts.length tc) ∧ V.cell? ⟨W.heap.size, 1, none⟩ = some (.slice oa os.length oc)) ∧ V.cell? ⟨b1, o1 + a * 7 + 2, none⟩ = some (.int .i64 pe) ∧ Hid (Chg [] w3 V)) V) := Lib.hid (fun V hV => ⟨⟨((HBS.out.keep HK3.out (by simp)).keep hV (by simp)).cell rfl, ((HBS.out.keep HK3.out (by simp)).keep hV (by simp)).cell rfl⟩, HQ2.out V (HC3.out.trans hV), Lib.hid hV⟩)
  have hHeld : (fun V : World => (V.cell? ⟨W.heap.size, 0, none⟩ = some (.slice ta ts.length tc) ∧ V.cell? ⟨W.heap.size, 1, none⟩ = some (.slice oa os.length oc)) ∧ V.cell? ⟨b1, o1 + a * 7 + 2, none⟩ = some (.int .i64 pe) ∧ Hid (Chg [] w3 V)) (World.drew w3) := KEEP.out _ (Chg.refl _ _).drew
  refine wp_region_plan (fun V : World => (V.cell? ⟨W.heap.size, 0, none⟩ = some (.slice ta ts.length tc) ∧ V.cell? ⟨W.heap.size, 1, none⟩ = some (.slice oa os.length oc)) ∧ V.cell? ⟨b1, o1 + a * 7 + 2, none⟩ = some (.int .i64 pe) ∧ Hid (Chg [] w3 V)) [(0, true, some 28), (1, true, some 29), (2, true, some 30), (3, true, some 31), (4, true, some 32), (5, true, some 33), (6, true, some 34), (8, true, some 36), (9, true, some 37), (10, true, some 38), (7, false, some 35), (11, false, some 39), (12, false, some 40), (13, true, some 8)] (by kernel_rfl) (by kernel_rfl) (by kernel_rfl) (by kernel_rfl) (fun d c a v w h => by cases d <;> exact h) hHeld ?_
  repeat (first
    | (refine planWp_read (v := ?_) rfl rfl ?_ ?_ ?_; rotate_left; (focus rfl); (focus (intro u hSw; (try dsimp only at hSw); obtain ⟨⟨u0, u1⟩, u2, -⟩ := hSw; go_simp; (try with_reducible rfl))); (try simp only [Act.put, List.setIfInBounds_toArray, List.set_cons_zero, List.set_cons_succ]))
    | (refine planWp_skip rfl rfl ?_ ?_; (focus rfl); (try simp only [Act.put, List.setIfInBounds_toArray, List.set_cons_zero, List.set_cons_succ]))
    | (refine planWp_leave rfl rfl ?_ hHeld ?_; (focus rfl); (try simp only [Act.put, List.setIfInBounds_toArray, List.set_cons_zero, List.set_cons_succ]))
    | (refine planWp_do rfl rfl ?_ (fun K hK => ?_); (focus rfl); go_simp; (try go_wp2_with (first | (go_at_call 84; refine (HCE.out _).mono ?_; rintro e w5 ⟨rfl, rfl⟩) | (go_at_call 44; refine (HMU.out _).mono ?_; rintro e w5 ⟨rfl, rfl⟩) | (go_at_call 85; refine (HDW.out _ (HC3.out.trans hHeld.2.2.out)).mono ?_; rintro e w4 ⟨rfl, hc4⟩; have HCX := Lib.hid hc4; clear hc4))); refine hK.out _ _ ?_ (fun hHeld2 => ?_); (focus first | exact KEEP.out _ (hHeld.2.2.out.trans HCX.out) | exact hHeld); clear hK K hHeld; have hHeld := hHeld2; clear hHeld2; (try simp only [Act.put, List.setIfInBounds_toArray, List.set_cons_zero, List.set_cons_succ])))
  refine planWp_nil ?_
  obtain ⟨-, -, hcz⟩ := hHeld
  clear KEEP
  go_wp2
  go_ret
  exact ⟨rfl, HC3.out.trans hcz.out⟩
end Go.Proofs.YtkedegbpkkgeaaaGreat.tf
/- TopFits: interfere: Fails. -/
namespace Go.Proofs.YtkedegbpkkgeaaaGreat.tf
open Go Go.RowKit Go.Proofs.YtkedegbpkkgeaaaGreat.kit Go.Proofs.YtkedegbpkkgeaaaGreat.obj Go.Proofs.YtkedegbpkkgeaaaGreat.mem Go.Proofs.YtkedegbpkkgeaaaGreat.lay Go.Proofs.YtkedegbpkkgeaaaGreat.isa
set_option linter.unusedVariables false
set_option linter.unusedSimpArgs false
set_option maxRecDepth 20000

theorem wrM_le (s : S) (i k r : Int) : wrM s i k r ≤ 1099511627776 := by
  unfold wrM
  split
  · unfold word.mulT; omega
  · omega
set_option maxHeartbeats 4000000 in
theorem ifails_any (ta : Option Addr) (tc : Nat) (oa : Option Addr) (oc : Nat) (ts : List DT) (os : List DO) (i kk : Nat) (r : Int) (W : World) (h : SysOK W ta tc oa oc ts os) (hi : i < ts.length) (hk : kk < os.length) (hr64 : r ≤ 9223372036854775807) :
    Calls Tryz.prog 45 #[.agg #[.slice ta ts.length tc, .slice oa os.length oc], .int .i64 (i : Int), .int .i64 (kk : Int), .int .i64 r] W fun e W' => e = .returned (.int .i64 (failsM (sys ts os) i kk r)) ∧ Chg [] W W' := by
  obtain ⟨d, hd⟩ : ∃ d, os[kk]? = some d := ⟨_, List.getElem?_eq_getElem hk⟩
  obtain ⟨-, b2, o2, hx2, hc2⟩ := objs_at h.O
  have g1 := hx2 kk hk
  have HC1 : Hid (Chg [] W (W.alloc (.cells #[.slice ta ts.length tc, .slice oa os.length oc] 25))) := Lib.hid ((Chg.refl [] W).alloc _)
  have HBS : Hid (Blk (W.alloc (.cells #[.slice ta ts.length tc, .slice oa os.length oc] 25)) W.heap.size #[.slice ta ts.length tc, .slice oa os.length oc] 25) := Lib.hid (Blk.new W _ _)
  have hwr := fun V (hV : Chg [] W V) => iwrites_any ta tc oa oc ts os i kk r V (h.chg hV) hi hk hr64
  have HQ : Hid (∀ V, Chg [] W V → OC V b2 (o2 + kk * 8) d.o) := Lib.hid (fun V hV => hc2 V hV kk d hd)
  have hn0 := wrM_nn (sys ts os) i kk r
  have hn1 := wrM_le (sys ts os) i kk r
  obtain ⟨n, hn⟩ : ∃ x, wrM (sys ts os) i kk r = x := ⟨_, rfl⟩
  obtain ⟨R, hR⟩ : ∃ R, failsM (sys ts os) i kk r = R := ⟨_, rfl⟩
  rw [hR]
  unfold failsM at hR
  rw [sys_o ts hd, hn] at hR
  rw [hn] at hwr hn0 hn1
  have hsr : d.o.s ≤ 16 ∨ d.o.k ≠ 4 := by
    have := h.fine.right d.p (List.mem_map.2 ⟨d, List.mem_of_getElem? hd, rfl⟩)
    unfold O.right rightB at this
    rw [decide_eq_true_eq] at this
    have h2 := this.2
    simp only [DO.p] at h2
    omega
  obtain ⟨⟨k, w, s, c, st, ja, il, jc, wri, ra, rl, rc⟩, ini, rds⟩ := d
  replace hR : (if n = 0 then 0 else if k = 3 ∨ k = 5 then n else if k = 4 then (if 2 < s then n / (s - 1) else n) else 0) = R := hR
  simp only at HQ hsr
  have HWR := Lib.hid hwr
  clear h hi hk hd hx2 hc2 hwr hr64 hn
  by_cases c0 : n = 0
  · subst c0
    obtain rfl : 0 = R := by rw [← hR, if_pos rfl]
    clear hR
    go_enter Tryz.func45, Tryz.ntmps45
    go_wp2_with (go_at_call 52; refine (HWR.out _ HC1.out).mono ?_; rintro e w2 ⟨rfl, hc2⟩; have s1 := (HBS.out.keep hc2 (by simp)).cell (o := 1) (v := .slice oa os.length oc) rfl; have HC2 := Lib.hid (HC1.out.trans hc2); obtain ⟨⟨q0, q1, q2, q3⟩, q4, q5, q6, q7⟩ := HQ.out w2 HC2.out; simp only at q0 q1 q2 q3 q4 q5 q6 q7; clear hc2)
    go_ret
    exact ⟨rfl, HC2.out⟩
  have d0 : (n == 0) = false := by simpa using c0
  rw [if_neg c0] at hR
  by_cases c1 : k = 3
  · subst c1
    obtain rfl : n = R := by rw [← hR, if_pos (.inl rfl)]
    clear hR c0
    go_enter Tryz.func45, Tryz.ntmps45
    go_wp2_with (go_at_call 52; refine (HWR.out _ HC1.out).mono ?_; rintro e w2 ⟨rfl, hc2⟩; have s1 := (HBS.out.keep hc2 (by simp)).cell (o := 1) (v := .slice oa os.length oc) rfl; have HC2 := Lib.hid (HC1.out.trans hc2); obtain ⟨⟨q0, q1, q2, q3⟩, q4, q5, q6, q7⟩ := HQ.out w2 HC2.out; simp only at q0 q1 q2 q3 q4 q5 q6 q7; clear hc2)
    go_ret
    exact ⟨rfl, HC2.out.alloc _⟩
  by_cases c2 : k = 5
  · subst c2
    obtain rfl : n = R := by rw [← hR, if_pos (.inr rfl)]
    clear hR c0
    go_enter Tryz.func45, Tryz.ntmps45
    go_wp2_with (go_at_call 52; refine (HWR.out _ HC1.out).mono ?_; rintro e w2 ⟨rfl, hc2⟩; have s1 := (HBS.out.keep hc2 (by simp)).cell (o := 1) (v := .slice oa os.length oc) rfl; have HC2 := Lib.hid (HC1.out.trans hc2); obtain ⟨⟨q0, q1, q2, q3⟩, q4, q5, q6, q7⟩ := HQ.out w2 HC2.out; simp only at q0 q1 q2 q3 q4 q5 q6 q7; clear hc2)
    go_ret
    exact ⟨rfl, HC2.out.alloc _⟩
  rw [if_neg (by omega)] at hR
  by_cases c4 : k = 4
  · subst c4
    rw [if_pos rfl] at hR
    by_cases c5 : 2 < s
    · rw [if_pos c5] at hR
      have ks : IntKind.i64.wrap (s - 1) = s - 1 := by rw [IntKind.wrap_i64]; omega
      have d5 : ((s - 1) == 0) = false := beq_eq_false_iff_ne.2 (by omega)
      have hdiv : Int.tdiv n (s - 1) = R := by rw [← hR]; exact Int.tdiv_eq_ediv_of_nonneg hn0
      have hR1 : 0 ≤ R ∧ R ≤ n := by rw [← hR]; exact ⟨Int.ediv_nonneg hn0 (by omega), Int.ediv_le_self _ hn0⟩
      have kR : wrap64 (Int.tdiv n (s - 1)) = R := by rw [hdiv]; unfold wrap64; omega
      have HRR := Lib.hid hR
      clear hR c0 hdiv hR1
      go_enter Tryz.func45, Tryz.ntmps45
      go_wp2_with (go_at_call 52; refine (HWR.out _ HC1.out).mono ?_; rintro e w2 ⟨rfl, hc2⟩; have s1 := (HBS.out.keep hc2 (by simp)).cell (o := 1) (v := .slice oa os.length oc) rfl; have HC2 := Lib.hid (HC1.out.trans hc2); obtain ⟨⟨q0, q1, q2, q3⟩, q4, q5, q6, q7⟩ := HQ.out w2 HC2.out; simp only at q0 q1 q2 q3 q4 q5 q6 q7; clear hc2)
      go_ret
      exact ⟨by first | rfl | (exact ret_int kR) | (simp [kR]; exact HRR.out), HC2.out.alloc _⟩
    · rw [if_neg c5] at hR
      subst hR
      clear c0
      go_enter Tryz.func45, Tryz.ntmps45
      go_wp2_with (go_at_call 52; refine (HWR.out _ HC1.out).mono ?_; rintro e w2 ⟨rfl, hc2⟩; have s1 := (HBS.out.keep hc2 (by simp)).cell (o := 1) (v := .slice oa os.length oc) rfl; have HC2 := Lib.hid (HC1.out.trans hc2); obtain ⟨⟨q0, q1, q2, q3⟩, q4, q5, q6, q7⟩ := HQ.out w2 HC2.out; simp only at q0 q1 q2 q3 q4 q5 q6 q7; clear hc2)
      go_ret
      exact ⟨rfl, HC2.out.alloc _⟩
  · rw [if_neg c4] at hR
    subst hR
    have e1 : (k == 3) = false := by simpa using c1
    have e2 : (k == 5) = false := by simpa using c2
    have e3 : (k == 4) = false := by simpa using c4
    clear c0 c1 c2 c4
    go_enter Tryz.func45, Tryz.ntmps45
    go_wp2_with (go_at_call 52; refine (HWR.out _ HC1.out).mono ?_; rintro e w2 ⟨rfl, hc2⟩; have s1 := (HBS.out.keep hc2 (by simp)).cell (o := 1) (v := .slice oa os.length oc) rfl; have HC2 := Lib.hid (HC1.out.trans hc2); obtain ⟨⟨q0, q1, q2, q3⟩, q4, q5, q6, q7⟩ := HQ.out w2 HC2.out; simp only at q0 q1 q2 q3 q4 q5 q6 q7; clear hc2)
    go_ret
    exact ⟨rfl, HC2.out.alloc _⟩
end Go.Proofs.YtkedegbpkkgeaaaGreat.tf
/- TopFits: interfere: Job. -/
namespace Go.Proofs.YtkedegbpkkgeaaaGreat.tf
open Go Go.RowKit Go.Proofs.YtkedegbpkkgeaaaGreat.kit Go.Proofs.YtkedegbpkkgeaaaGreat.obj Go.Proofs.YtkedegbpkkgeaaaGreat.mem Go.Proofs.YtkedegbpkkgeaaaGreat.lay Go.Proofs.YtkedegbpkkgeaaaGreat.isa
set_option linter.unusedVariables false
set_option linter.unusedSimpArgs false
set_option maxRecDepth 20000

open Go.Proofs.YtkedegbpkkgeaaaGreat.word
/-- what a job takes, by so many of the objects -/
def jobT (s : S) (i r : Int) (n : Nat) : Int := (List.range n).foldl (fun a (k : Nat) => addT a (mulT (failsM s i (k : Int) r) ((s.o (k : Int)).fail 1))) (cleanM s i)
theorem jobT_succ (s : S) (i r : Int) (n : Nat) : jobT s i r (n + 1) = addT (jobT s i r n) (mulT (failsM s i (n : Int) r) ((s.o (n : Int)).fail 1)) := by
  unfold jobT
  rw [List.range_succ, List.foldl_append]
  rfl
set_option maxHeartbeats 8000000 in
theorem job_any (ta : Option Addr) (tc : Nat) (oa : Option Addr) (oc : Nat) (ts : List DT) (os : List DO) (i : Nat) (r : Int) (W : World) (h : SysOK W ta tc oa oc ts os) (hi : i < ts.length) (hr64 : r ≤ 9223372036854775807) :
    Calls Tryz.prog 19 #[.agg #[.slice ta ts.length tc, .slice oa os.length oc], .int .i64 (i : Int), .int .i64 r] W fun e W' => e = .returned (.int .i64 (jobM (sys ts os) i r)) ∧ Chg [] W W' := by
  obtain ⟨dt, hdt⟩ : ∃ d, ts[i]? = some d := ⟨_, List.getElem?_eq_getElem hi⟩
  obtain ⟨-, b2, o2, hx2, hc2⟩ := objs_at h.O
  have hl := h.lens
  have HL : Hid (os.length ≤ 8) := Lib.hid hl.2
  have HX2 := Lib.hid hx2
  have HC1 : Hid (Chg [] W (W.alloc (.cells #[.slice ta ts.length tc, .slice oa os.length oc] 25))) := Lib.hid ((Chg.refl [] W).alloc _)
  have HBS : Hid (Blk (W.alloc (.cells #[.slice ta ts.length tc, .slice oa os.length oc] 25)) W.heap.size #[.slice ta ts.length tc, .slice oa os.length oc] 25) := Lib.hid (Blk.new W _ _)
  have HCL := Lib.hid (fun V (hV : Chg [] W V) => clean_any ta tc oa oc ts os i V (h.T.chg hV) (h.O.chg hV) h.w dt hdt (by omega) (h.code hdt))
  have HFA := Lib.hid (fun (kk : Nat) (hk : kk < os.length) V (hV : Chg [] W V) => ifails_any ta tc oa oc ts os i kk r V (h.chg hV) hi hk hr64)
  have HQ : Hid (∀ V, Chg [] W V → ∀ (j : Nat) (d : DO), os[j]? = some d → OC V b2 (o2 + j * 8) d.o) := Lib.hid hc2
  have HWW := Lib.hid h.w
  have HSO : Hid (∀ (kk : Nat) (d : DO), os[kk]? = some d → (sys ts os).o (kk : Int) = d.p) := Lib.hid (fun kk d hd => sys_o ts hd)
  have HLE : Hid (∀ d ∈ os, d.o.il = d.ini.length ∧ d.o.rl = d.rds.length) := Lib.hid (fun d hd => ⟨(h.O.2 d hd).leni, (h.O.2 d hd).lenr⟩)
  obtain ⟨R, hR⟩ : ∃ R, jobM (sys ts os) i r = R := ⟨_, rfl⟩
  rw [hR]
  have hJT : jobT (sys ts os) i r os.length = R := by
    rw [← hR]
    unfold jobT jobM
    simp only [sys, List.length_map]
  have hJ0 : jobT (sys ts os) i r 0 = cleanM (sys ts os) i := rfl
  have hJS := fun n => jobT_succ (sys ts os) i r n
  obtain ⟨J, hJ⟩ : ∃ f, jobT (sys ts os) i r = f := ⟨_, rfl⟩
  rw [hJ] at hJT hJ0
  simp only [hJ] at hJS
  rw [← hJ0] at HCL
  have HJT := Lib.hid hJT
  have HJS := Lib.hid hJS
  clear h hi hdt hx2 hc2 hr64 hl hR hJT hJ0 hJS hJ
  go_enter Tryz.func19, Tryz.ntmps19
  go_wp2_with (go_at_call 42; refine (HCL.out _ HC1.out).mono ?_; rintro e w2 ⟨rfl, hc2⟩; have s0 := (HBS.out.keep hc2 (by simp)).cell (o := 0) (v := .slice ta ts.length tc) rfl; have s1 := (HBS.out.keep hc2 (by simp)).cell (o := 1) (v := .slice oa os.length oc) rfl; have HK2 := Lib.hid hc2; have HC2 := Lib.hid (HC1.out.trans hc2); clear hc2)
  go_loopw [7, 22] (fun o q wr => ∃ (m : Nat), m ≤ os.length ∧ q = .int .i64 m ∧ o = .int .i64 (J m) ∧ Hid (Chg [] w2 wr)) (fun _ q _ => os.length - (intOf q).toNat)
  case atStart => exact ⟨0, Nat.zero_le _, rfl, rfl, Lib.hid (Chg.refl _ _)⟩
  case round =>
    obtain ⟨m, hm, rfl, rfl, HJ⟩ := hrel
    by_cases hlm : m < os.length
    · have HLM := Lib.hid hlm
      have mm : (m : Int) < (os.length : Int) := by omega
      have g3 := HX2.out m hlm
      obtain ⟨d, hd⟩ : ∃ d, os[m]? = some d := ⟨_, List.getElem?_eq_getElem hlm⟩
      obtain ⟨⟨q0, q1, q2, q3⟩, q4, q5, q6, q7⟩ := HQ.out wr (HC2.out.trans HJ.out) m d hd
      have hle := HLE.out d (List.mem_of_getElem? hd)
      have hwd := HWW.out d (List.mem_of_getElem? hd)
      have hS := HJS.out m
      rw [HSO.out m d hd] at hS
      obtain ⟨⟨k, w, s, c, st, ia, il, ic, wri, ra, rl, rc⟩, ini, rds⟩ := d
      simp only at q0 q1 q2 q3 q4 q5 q6 q7 hle
      obtain ⟨rfl, rfl⟩ := hle
      have hbf := fun V => bFail_any k w s c st ia ini.length ic wri ra rds.length rc 1 hwd V
      obtain ⟨fl, hfl⟩ : ∃ x, failI k w s c st ini.length rds.length 1 = x := ⟨_, rfl⟩
      rw [hfl] at hbf
      have hfa := HFA.out m hlm
      obtain ⟨fs, hfs⟩ : ∃ x, failsM (sys ts os) i m r = x := ⟨_, rfl⟩
      rw [hfs] at hfa
      replace hS : J (m + 1) = addT (J m) (mulT fs fl) := by rw [hS, ← hfs, ← hfl]; rfl
      obtain ⟨il, hil⟩ : ∃ x, ini.length = x := ⟨_, rfl⟩
      obtain ⟨rl, hrl⟩ : ∃ x, rds.length = x := ⟨_, rfl⟩
      rw [hil, hrl] at hbf
      rw [hil] at q5
      rw [hrl] at q7
      have HMU := Lib.hid (fun V => Go.Proofs.YtkedegbpkkgeaaaGreat.word.Mul_any fs fl V)
      have HAD := Lib.hid (fun V => Go.Proofs.YtkedegbpkkgeaaaGreat.word.Add_any (J m) (mulT fs fl) V)
      change Hid (∀ V, Calls Tryz.prog 43 _ V fun e W' => e = .returned (.int .i64 (addT (J m) (mulT fs fl))) ∧ _) at HAD
      rw [← hS] at HAD
      obtain ⟨ml, hml⟩ : ∃ x, mulT fs fl = x := ⟨_, rfl⟩
      change Hid (∀ V, Calls Tryz.prog 44 _ V fun e W' => e = .returned (.int .i64 (mulT fs fl)) ∧ _) at HMU
      rw [hml] at HMU HAD
      obtain ⟨jm, hjm⟩ : ∃ x, J m = x := ⟨_, rfl⟩
      rw [hjm] at HAD ⊢
      obtain ⟨jn, hjn⟩ : ∃ x, J (m + 1) = x := ⟨_, rfl⟩
      have HJN := Lib.hid hjn
      rw [hjn] at HAD
      have HBF := Lib.hid hbf
      have HFX := Lib.hid hfa
      have k9 : IntKind.i64.wrap ((m : Int) + 1) = (m : Int) + 1 := by rw [IntKind.wrap_i64]; have := HL.out; omega
      have HAL : Hid (Chg [] w2 (wr.alloc (.cells #[.int .i64 k, .int .i64 w, .int .i64 s, .int .i64 c, .int .u32 st, .slice ia il ic, .int .i64 wri, .slice ra rl rc] 46))) := Lib.hid (HJ.out.alloc _)
      have HBO := Lib.hid (Blk.new wr #[.int .i64 k, .int .i64 w, .int .i64 s, .int .i64 c, .int .u32 st, .slice ia il ic, .int .i64 wri, .slice ra rl rc] 46)
      clear hd hwd hfl hfs hS hml hjm hjn hil hrl hbf hfa hlm hm
      go_upto_region 7 with fail
      obtain ⟨w4, hw4⟩ : ∃ x, x = wr.alloc (.cells #[.int .i64 k, .int .i64 w, .int .i64 s, .int .i64 c, .int .u32 st, .slice ia il ic, .int .i64 wri, .slice ra rl rc] 46) := ⟨_, rfl⟩
      rw [← hw4] at HAL HBO
      try rw [← hw4]
      clear hw4
      have KEEP : Hid (∀ V, Chg [] w4 V → (fun V : World => (V.cell? ⟨W.heap.size, 0, none⟩ = some (.slice ta ts.length tc) ∧ V.cell? ⟨W.heap.size, 1, none⟩ = some (.slice oa os.length oc)) ∧ (V.cell? ⟨wr.heap.size, 0, none⟩ = some (.int .i64 k) ∧ V.cell? ⟨wr.heap.size, 1, none⟩ = some (.int .i64 w) ∧ V.cell? ⟨wr.heap.size, 2, none⟩ = some (.int .i64 s) ∧ V.cell? ⟨wr.heap.size, 3, none⟩ = some (.int .i64 c) ∧ V.cell? ⟨wr.heap.size, 4, none⟩ = some (.int .u32 st) ∧ V.cell? ⟨wr.heap.size, 5, none⟩ = some (.slice ia il ic) ∧ V.cell? ⟨wr.heap.size, 6, none⟩ = some (.int .i64 wri) ∧ V.cell? ⟨wr.heap.size, 7, none⟩ = some (.slice ra rl rc)) ∧ Hid (Chg [] w4 V)) V) := Lib.hid (fun V hV => by
        have B := (HBS.out.keep (HK2.out.trans HAL.out) (by simp)).keep hV (by simp)
        have B2 := HBO.out.keep hV (by simp)
        exact ⟨⟨B.cell rfl, B.cell rfl⟩, ⟨B2.cell rfl, B2.cell rfl, B2.cell rfl, B2.cell rfl, B2.cell rfl, B2.cell rfl, B2.cell rfl, B2.cell rfl⟩, Lib.hid hV⟩)
      have hHeld : (fun V : World => (V.cell? ⟨W.heap.size, 0, none⟩ = some (.slice ta ts.length tc) ∧ V.cell? ⟨W.heap.size, 1, none⟩ = some (.slice oa os.length oc)) ∧ (V.cell? ⟨wr.heap.size, 0, none⟩ = some (.int .i64 k) ∧ V.cell? ⟨wr.heap.size, 1, none⟩ = some (.int .i64 w) ∧ V.cell? ⟨wr.heap.size, 2, none⟩ = some (.int .i64 s) ∧ V.cell? ⟨wr.heap.size, 3, none⟩ = some (.int .i64 c) ∧ V.cell? ⟨wr.heap.size, 4, none⟩ = some (.int .u32 st) ∧ V.cell? ⟨wr.heap.size, 5, none⟩ = some (.slice ia il ic) ∧ V.cell? ⟨wr.heap.size, 6, none⟩ = some (.int .i64 wri) ∧ V.cell? ⟨wr.heap.size, 7, none⟩ = some (.slice ra rl rc)) ∧ Hid (Chg [] w4 V)) (World.drew w4) := KEEP.out _ (Chg.refl _ _).drew
      refine wp_region_plan (fun V : World => (V.cell? ⟨W.heap.size, 0, none⟩ = some (.slice ta ts.length tc) ∧ V.cell? ⟨W.heap.size, 1, none⟩ = some (.slice oa os.length oc)) ∧ (V.cell? ⟨wr.heap.size, 0, none⟩ = some (.int .i64 k) ∧ V.cell? ⟨wr.heap.size, 1, none⟩ = some (.int .i64 w) ∧ V.cell? ⟨wr.heap.size, 2, none⟩ = some (.int .i64 s) ∧ V.cell? ⟨wr.heap.size, 3, none⟩ = some (.int .i64 c) ∧ V.cell? ⟨wr.heap.size, 4, none⟩ = some (.int .u32 st) ∧ V.cell? ⟨wr.heap.size, 5, none⟩ = some (.slice ia il ic) ∧ V.cell? ⟨wr.heap.size, 6, none⟩ = some (.int .i64 wri) ∧ V.cell? ⟨wr.heap.size, 7, none⟩ = some (.slice ra rl rc)) ∧ Hid (Chg [] w4 V)) [(0, true, some 27), (1, true, some 28), (2, true, some 29), (3, true, some 30), (4, true, some 31), (6, true, some 33), (5, false, some 32), (7, false, some 34), (8, false, some 35), (9, false, some 36), (10, true, some 7)] (by kernel_rfl) (by kernel_rfl) (by kernel_rfl) (by kernel_rfl) (fun d c a v w h => by cases d <;> exact h) hHeld ?_
      repeat (first
        | (refine planWp_read (v := ?_) rfl rfl ?_ ?_ ?_; rotate_left; (focus rfl); (focus (intro u hSw; (try dsimp only at hSw); obtain ⟨⟨u0, u1⟩, ⟨v0, v1, v2, v3, v4, v5, v6, v7⟩, -⟩ := hSw; go_simp; (try with_reducible rfl))); (try simp only [Act.put, List.setIfInBounds_toArray, List.set_cons_zero, List.set_cons_succ]))
        | (refine planWp_skip rfl rfl ?_ ?_; (focus rfl); (try simp only [Act.put, List.setIfInBounds_toArray, List.set_cons_zero, List.set_cons_succ]))
        | (refine planWp_leave rfl rfl ?_ hHeld ?_; (focus rfl); (try simp only [Act.put, List.setIfInBounds_toArray, List.set_cons_zero, List.set_cons_succ]))
        | (refine planWp_do rfl rfl ?_ (fun K hK => ?_); (focus rfl); go_simp; (try go_wp2_with (first | (go_at_call 45; refine (HFX.out _ ((HC2.out.trans HAL.out).trans hHeld.2.2.out)).mono ?_; rintro e w5 ⟨rfl, hc5⟩; have HCX := Lib.hid hc5; clear hc5) | (go_at_call 46; refine (HBF.out _).mono ?_; rintro e w5 ⟨rfl, hc5⟩; have HCX := Lib.hid hc5; clear hc5) | (go_at_call 44; refine (HMU.out _).mono ?_; rintro e w5 ⟨rfl, rfl⟩) | (go_at_call 43; refine (HAD.out _).mono ?_; rintro e w5 ⟨rfl, rfl⟩))); refine hK.out _ _ ?_ (fun hHeld2 => ?_); (focus first | exact KEEP.out _ (hHeld.2.2.out.trans HCX.out) | exact hHeld); clear hK K hHeld; have hHeld := hHeld2; clear hHeld2; (try simp only [Act.put, List.setIfInBounds_toArray, List.set_cons_zero, List.set_cons_succ])))
      refine planWp_nil ?_
      obtain ⟨-, -, hcz⟩ := hHeld
      clear KEEP
      go_wp2
      have hltj := HLM.out
      go_roundw
      case rel => exact ⟨m + 1, by omega, by go_num, by rw [HJN.out], Lib.hid (HAL.out.trans hcz.out)⟩
      case measure => simp [intOf]; omega
    · obtain rfl : os.length = m := by omega
      clear hlm hm
      rw [HJT.out]
      go_wp2
      go_ret
      exact ⟨rfl, HC2.out.trans HJ.out⟩
end Go.Proofs.YtkedegbpkkgeaaaGreat.tf
/- TopFits: rta: bounds, costOf, Load. -/
namespace Go.Proofs.YtkedegbpkkgeaaaGreat.tf
open Go Go.RowKit Go.Proofs.YtkedegbpkkgeaaaGreat.kit Go.Proofs.YtkedegbpkkgeaaaGreat.obj Go.Proofs.YtkedegbpkkgeaaaGreat.mem Go.Proofs.YtkedegbpkkgeaaaGreat.lay Go.Proofs.YtkedegbpkkgeaaaGreat.isa
set_option linter.unusedVariables false
set_option linter.unusedSimpArgs false
set_option maxRecDepth 20000

open Go.Proofs.YtkedegbpkkgeaaaGreat.word
theorem inside_le (n : Int) : inside n ≤ 1099511627776 := by unfold inside; omega
theorem addT_le (a b : Int) : addT a b ≤ 1099511627776 := inside_le _
theorem best_le {a b : Int} (ha : a ≤ 1099511627776) (hb : b ≤ 1099511627776) : best a b ≤ 1099511627776 := by
  unfold best; split
  · exact hb
  · split
    · exact ha
    · omega
theorem both_le (a b : Int) : both a b ≤ 1099511627776 := by
  unfold both; split
  · omega
  · exact addT_le _ _
def WayLe (w : Int × Int) : Prop := w.1 ≤ 1099511627776 ∧ w.2 ≤ 1099511627776
theorem way_le {l : List (Int × Int)} (h : ∀ w ∈ l, WayLe w) (k : Int) : WayLe (wayAt l k) := by
  unfold wayAt
  rw [List.getD_eq_getElem?_getD]
  cases hk : l[k.toNat]? with
  | none => exact ⟨by decide, by decide⟩
  | some w => exact h w (List.mem_of_getElem? hk)
theorem foldW_le (x : Int) {l : List (Int × Int)} (ns : List Int) : WayLe (foldW x l ns) := by
  unfold foldW
  suffices h : ∀ (ns : List Int) (a : Int × Int), WayLe a → WayLe (ns.foldl (fun a «to» => (best a.1 (both x (wayAt l «to»).1), best a.2 (both x (wayAt l «to»).2))) a) from h ns _ ⟨by decide, by decide⟩
  intro ns
  induction ns with
  | nil => exact fun a h => h
  | cons n ns ih => exact fun a h => ih _ ⟨best_le h.1 (both_le _ _), best_le h.2 (both_le _ _)⟩
theorem step_le (i : Ins) (pc x : Int) (l : List (Int × Int)) : WayLe (stepM i pc x l) := by
  unfold stepM
  split
  · exact ⟨show (-1 : Int) ≤ _ by decide, addT_le _ _⟩
  · split
    · exact ⟨addT_le _ _, show (-1 : Int) ≤ _ by decide⟩
    · exact foldW_le _ _
theorem rounds_le {one on : Int × Int} (turns : Int) (h : WayLe one) : WayLe (roundsM one on turns) := by
  unfold roundsM
  exact ⟨both_le _ _, best_le (best_le h.2 (both_le _ _)) (both_le _ _)⟩
theorem at_le (p : List Ins) (w : List Int) (sub : Int × Int → Int × Int) (part : Int × Int) (hs : ∀ s, WayLe (sub s)) : ∀ k, ∀ y ∈ atM p w sub part k, WayLe y
  | 0, y, hy => by
    unfold atM at hy
    rw [(List.mem_replicate.1 hy).2]
    exact ⟨by decide, by decide⟩
  | k + 1, y, hy => by
    have ih := at_le p w sub part hs k
    unfold atM updM at hy
    split at hy
    · rcases List.mem_or_eq_of_mem_set hy with h | h
      · exact ih y h
      · rw [h]; exact step_le _ _ _ _
    · split at hy
      · rcases List.mem_or_eq_of_mem_set hy with h | h
        · exact ih y h
        · rw [h]; exact rounds_le _ (hs _)
      · exact ih y hy
theorem part_le (p : List Ins) (w : List Int) : ∀ n s, WayLe (partM p w n s)
  | 0, _ => ⟨by unfold partM; decide, by unfold partM; decide⟩
  | n + 1, s => by unfold partM; exact way_le (at_le p w _ s (part_le p w n) _) _
theorem most_le (p : List Ins) (w : List Int) : mostM p w ≤ 1099511627776 := (part_le p w _ _).2
theorem fold_le {α : Type} (g : Int → α → Int) (hg : ∀ a x, g a x ≤ 1099511627776) : ∀ (l : List α) (a : Int), a ≤ 1099511627776 → l.foldl g a ≤ 1099511627776
  | [], _, h => h
  | x :: l, a, _ => fold_le g hg l _ (hg a x)
theorem job_le (s : S) (i r : Int) : jobM s i r ≤ 1099511627776 := by
  unfold jobM
  exact fold_le _ (fun _ _ => addT_le _ _) _ _ (most_le _ _)
theorem load_le (s : S) (i r : Int) (cs : List Int) : loadM s i r cs ≤ 1099511627776 := by
  unfold loadM
  exact fold_le _ (fun _ _ => addT_le _ _) _ _ (job_le _ _ _)
theorem above_places (s : S) (i : Int) : Places (aboveM s i) s.ts.length := fun x hx => by
  unfold aboveM at hx
  have h := (List.mem_filter.1 hx).1
  simp at h
  obtain ⟨k, hk, rfl⟩ := h
  show 0 ≤ (k : Int) ∧ (k : Int) < _
  omega
theorem above_len (s : S) (i : Int) : (aboveM s i).length ≤ s.ts.length := by
  unfold aboveM
  refine Nat.le_trans (List.length_filter_le _ _) ?_
  simp
def loadT (s : S) (i r : Int) (cs : List Int) (m : Nat) : Int := ((aboveM s i).take m).foldl (fun a j => addT a (mulT (ceil r (s.t j).period) (cs.getD j.toNat 0))) (jobM s i r)
theorem loadT_succ {s : S} {i r : Int} {cs : List Int} {m : Nat} {j : Int} (h : (aboveM s i)[m]? = some j) : loadT s i r cs (m + 1) = addT (loadT s i r cs m) (mulT (ceil r (s.t j).period) (cs.getD j.toNat 0)) := by
  unfold loadT
  rw [take_snoc h, List.foldl_append]
  rfl
theorem costOf_any (ca : Option Addr) (cc : Nat) (cs : List Int) (j : Nat) (W : World) (hr : ReadsN W (.slice ca cs.length cc) cs) (hj : j < cs.length) :
    Calls Tryz.prog 109 #[.slice ca cs.length cc, .int .i64 (j : Int)] W fun e W' => e = .returned (.int .i64 (cs.getD j 0)) ∧ W = W' := by
  obtain ⟨-, b1, o1, hx1, hc1⟩ := ints_at hr
  obtain ⟨x, hx⟩ : ∃ x, cs[j]? = some x := ⟨_, List.getElem?_eq_getElem hj⟩
  have q0 := hc1 W (Chg.refl _ _) j x hx
  have g1 := hx1 j hj
  have m1 : (j : Int) < (cs.length : Int) := by omega
  rw [show cs.getD j 0 = x by rw [List.getD_eq_getElem?_getD, hx]; rfl]
  clear hx1 hc1 hr hj hx
  go_enter Tryz.func109, Tryz.ntmps109
  go_wp2
  go_ret
  exact ⟨rfl, rfl⟩
set_option maxHeartbeats 8000000 in
theorem load_any (ta : Option Addr) (tc : Nat) (oa : Option Addr) (oc : Nat) (ts : List DT) (os : List DO) (i : Nat) (r : Int) (ca : Option Addr) (cc : Nat) (cs : List Int) (W : World) (h : SysOK W ta tc oa oc ts os) (hi : i < ts.length) (hr64 : r ≤ 9223372036854775807) (hcr : ReadsN W (.slice ca cs.length cc) cs) (hcl : cs.length = ts.length) :
    Calls Tryz.prog 78 #[.agg #[.slice ta ts.length tc, .slice oa os.length oc], .int .i64 (i : Int), .int .i64 r, .slice ca cs.length cc] W fun e W' => e = .returned (.int .i64 (loadM (sys ts os) i r cs)) ∧ Chg [] W W' := by
  obtain ⟨-, b1, o1, hx1, hc1⟩ := tasks_at h.T
  have hl := h.lens
  have HX := Lib.hid hx1
  have HQ : Hid (∀ V, Chg [] W V → ∀ (j : Nat) (d : DT), ts[j]? = some d → V.cell? ⟨b1, o1 + j * 7 + 2, none⟩ = some (.int .i64 d.t.period)) := Lib.hid (fun V hV j d hd => (hc1 V hV j d hd).1.2.2.1)
  have HCO := Lib.hid (fun (j : Nat) (hj : j < ts.length) V (hV : Chg [] W V) => costOf_any ca cc cs j V (hcr.chg hV) (by omega))
  have HC1 : Hid (Chg [] W (W.alloc (.cells #[.slice ta ts.length tc, .slice oa os.length oc] 25))) := Lib.hid ((Chg.refl [] W).alloc _)
  have HBS : Hid (Blk (W.alloc (.cells #[.slice ta ts.length tc, .slice oa os.length oc] 25)) W.heap.size #[.slice ta ts.length tc, .slice oa os.length oc] 25) := Lib.hid (Blk.new W _ _)
  have HJO := Lib.hid (job_any ta tc oa oc ts os i r (W.alloc (.cells #[.slice ta ts.length tc, .slice oa os.length oc] 25)) (h.chg HC1.out) hi hr64)
  have HAB := Lib.hid (fun V (hV : Chg [] W V) => above_any ta tc ts os i V (h.T.chg hV) hi (by omega))
  have HAP : Hid (Places (aboveM (sys ts os) i) ts.length) := Lib.hid (by have h := above_places (sys ts os) i; simpa only [sys, List.length_map] using h)
  have HAL : Hid ((aboveM (sys ts os) i).length ≤ 8) := Lib.hid (by have h := above_len (sys ts os) i; simp only [sys, List.length_map] at h; exact Nat.le_trans h hl.1.2)
  have HST : Hid (∀ (j : Nat) (d : DT), ts[j]? = some d → ((sys ts os).t (j : Int)).period = d.t.period) := Lib.hid (fun j d hd => by rw [sys_t os hd]; rfl)
  obtain ⟨R, hR⟩ : ∃ R, loadM (sys ts os) i r cs = R := ⟨_, rfl⟩
  rw [hR]
  have hE : loadT (sys ts os) i r cs (aboveM (sys ts os) i).length = R := by rw [← hR]; unfold loadT loadM; rw [List.take_length]
  have h0 : loadT (sys ts os) i r cs 0 = jobM (sys ts os) i r := rfl
  have hS := fun (m : Nat) (j : Int) => loadT_succ (s := sys ts os) (i := i) (r := r) (cs := cs) (m := m) (j := j)
  obtain ⟨F, hF⟩ : ∃ f, loadT (sys ts os) i r cs = f := ⟨_, rfl⟩
  obtain ⟨ab, hab⟩ : ∃ l, aboveM (sys ts os) i = l := ⟨_, rfl⟩
  simp only [hF, hab] at hE h0 hS HAB HAP HAL
  rw [← h0] at HJO
  have HE := Lib.hid hE
  have HS := Lib.hid hS
  have HR64 := Lib.hid hr64
  have n1 : ¬ (i : Int) < 0 := by omega
  have n2 : ¬ (ts.length : Int) ≤ (i : Int) := by omega
  clear h hi hx1 hc1 hr64 hcr hcl hl hR hE h0 hS hF hab
  go_enter Tryz.func78, Tryz.ntmps78
  go_wp2_with (first
    | (go_at_call 19; refine HJO.out.mono ?_; rintro e w2 ⟨rfl, hc2⟩; have s0 := (HBS.out.keep hc2 (by simp)).cell (o := 0) (v := .slice ta ts.length tc) rfl; have HK2 := Lib.hid hc2; have HC2 := Lib.hid (HC1.out.trans hc2); clear hc2)
    | (go_at_call 108; refine (HAB.out _ HC2.out).mono ?_; rintro e w3 ⟨⟨a, c, rfl, hab, -⟩, hc3⟩; have HAR := Lib.hid hab; have HK3 := Lib.hid (HK2.out.trans hc3); have HC3 := Lib.hid (HC2.out.trans hc3); clear hab hc3))
  obtain ⟨-, b2, o2, hx2, hc2⟩ := ints_at HAR.out
  have HX2 := Lib.hid hx2
  have HQ2 := Lib.hid hc2
  clear hx2 hc2 n1 n2
  try clear s0
  go_loopw [9, 30] (fun o q wr => ∃ (m : Nat), m ≤ ab.length ∧ q = .int .i64 m ∧ o = .int .i64 (F m) ∧ Hid (Chg [] w3 wr)) (fun _ q _ => ab.length - (intOf q).toNat)
  case atStart => exact ⟨0, Nat.zero_le _, rfl, rfl, Lib.hid (Chg.refl _ _)⟩
  case round =>
    obtain ⟨m, hm, rfl, rfl, HJ⟩ := hrel
    by_cases hlm : m < ab.length
    · have HLM := Lib.hid hlm
      have mm : (m : Int) < (ab.length : Int) := by omega
      have g3 := HX2.out m hlm
      obtain ⟨j, hj, hjn⟩ := HAP.out.at hlm
      have q0 := HQ2.out wr HJ.out m _ hj
      have g4 := HX.out j hjn
      obtain ⟨d, hd⟩ : ∃ d, ts[j]? = some d := ⟨_, List.getElem?_eq_getElem hjn⟩
      have q2 := HQ.out wr (HC3.out.trans HJ.out) j d hd
      have s0 := ((HBS.out.keep HK3.out (by simp)).keep HJ.out (by simp)).cell (o := 0) (v := .slice ta ts.length tc) rfl
      have hS := HS.out m _ hj
      rw [HST.out j d hd, Int.toNat_natCast] at hS
      obtain ⟨pe, hpe⟩ : ∃ x, d.t.period = x := ⟨_, rfl⟩
      rw [hpe] at q2 hS
      have hco := HCO.out j hjn
      obtain ⟨cj, hcj⟩ : ∃ x, cs.getD j 0 = x := ⟨_, rfl⟩
      rw [hcj] at hS hco
      have HCX := Lib.hid hco
      have HCE := Lib.hid (fun V => Go.Proofs.YtkedegbpkkgeaaaGreat.word.Ceil_any r pe V HR64.out)
      have HMU := Lib.hid (fun V => Go.Proofs.YtkedegbpkkgeaaaGreat.word.Mul_any (ceil r pe) cj V)
      have HAD : Hid (∀ V, Calls Tryz.prog 43 #[.int .i64 (F m), .int .i64 (mulT (ceil r pe) cj)] V fun e W' => e = .returned (.int .i64 (addT (F m) (mulT (ceil r pe) cj))) ∧ V = W') := Lib.hid (fun V => Go.Proofs.YtkedegbpkkgeaaaGreat.word.Add_any (F m) (mulT (ceil r pe) cj) V)
      rw [← hS] at HAD
      obtain ⟨ce, hce⟩ : ∃ x, ceil r pe = x := ⟨_, rfl⟩
      rw [hce] at HCE HMU HAD
      obtain ⟨ml, hml⟩ : ∃ x, mulT ce cj = x := ⟨_, rfl⟩
      rw [hml] at HMU HAD
      have k9 : IntKind.i64.wrap ((m : Int) + 1) = (m : Int) + 1 := by rw [IntKind.wrap_i64]; have := HAL.out; omega
      clear hd hS hco hpe hcj hce hml hjn hj hlm hm
      go_wp2_with (first
        | (go_at_call 84; refine (HCE.out _).mono ?_; rintro e w5 ⟨rfl, rfl⟩)
        | (go_at_call 109; refine (HCX.out _ (HC3.out.trans HJ.out)).mono ?_; rintro e w5 ⟨rfl, rfl⟩)
        | (go_at_call 44; refine (HMU.out _).mono ?_; rintro e w5 ⟨rfl, rfl⟩)
        | (go_at_call 43; refine (HAD.out _).mono ?_; rintro e w5 ⟨rfl, rfl⟩))
      have hltj := HLM.out
      go_roundw
      case rel => exact ⟨m + 1, by omega, by go_num, rfl, HJ⟩
      case measure => simp [intOf]; omega
    · obtain rfl : ab.length = m := by omega
      clear hlm hm
      rw [HE.out]
      go_wp2
      go_ret
      exact ⟨rfl, HC3.out.trans HJ.out⟩
end Go.Proofs.YtkedegbpkkgeaaaGreat.tf
/- TopFits: rta: rounds, the search. -/
namespace Go.Proofs.YtkedegbpkkgeaaaGreat.tf
open Go Go.RowKit Go.Proofs.YtkedegbpkkgeaaaGreat.kit Go.Proofs.YtkedegbpkkgeaaaGreat.obj Go.Proofs.YtkedegbpkkgeaaaGreat.mem Go.Proofs.YtkedegbpkkgeaaaGreat.lay Go.Proofs.YtkedegbpkkgeaaaGreat.isa
set_option linter.unusedVariables false
set_option linter.unusedSimpArgs false
set_option maxRecDepth 20000

attribute [local go_sem] Oper.semAt_some
def KpC (n₀ : Nat) (A B : World) : Prop := (B.os = A.os ∧ B.tape = A.tape ∧ B.output = A.output) ∧ A.heap.size ≤ B.heap.size ∧ ∀ k, k < n₀ → B.heap[k]? = A.heap[k]?
theorem KpC.chg {w A B : World} (h : Chg [] w A) (k : KpC w.heap.size A B) : Chg [] w B := ⟨k.1.1.trans h.os, k.1.2.1.trans h.tape, k.1.2.2.trans h.output, Nat.le_trans h.size k.2.1, fun q hq hn => (k.2.2 q hq).trans (h.block q hq hn)⟩
theorem KpC.of {n₀ : Nat} {L : List Nat} {A B : World} (h : Chg L A B) (hn : n₀ ≤ A.heap.size) (hL : ∀ y ∈ L, n₀ ≤ y) : KpC n₀ A B := ⟨⟨h.os, h.tape, h.output⟩, h.size, fun k hk => h.block k (by omega) (fun hm => by have := hL k hm; omega)⟩
/-- the rounds of a search -/
def rdG (g : Nat → Int) (N : Nat) : List (Int × Int) := (List.range N).map fun k => (g k, g (k + 1))
theorem rdG_len (g : Nat → Int) (N : Nat) : (rdG g N).length = N := by simp [rdG]
theorem rdG_get (g : Nat → Int) {N m : Nat} (hm : m < N) : (rdG g N)[m]? = some (g m, g (m + 1)) := by
  unfold rdG
  rw [List.getElem?_map, List.getElem?_range hm]
  rfl
def rdE (x : Int × Int) : Array Value := #[.int .i64 x.1, .int .i64 x.2]
theorem trounds_any (ta : Option Addr) (tc : Nat) (oa : Option Addr) (oc : Nat) (ts : List DT) (os : List DO) (i : Int) (ca : Option Addr) (cl cc : Nat) (w : World) :
    Calls Tryz.prog 41 #[.agg #[.slice ta ts.length tc, .slice oa os.length oc], .int .i64 i, .slice ca cl cc] w fun e w' => e = .returned (.func (.func 77) #[] #[.pointer (some ⟨w.heap.size, 0, none⟩), .pointer (some ⟨w.heap.size + 1, 0, none⟩), .pointer (some ⟨w.heap.size + 1 + 1, 0, none⟩)]) ∧ w' = ((w.alloc (.cells #[.slice ta ts.length tc, .slice oa os.length oc] 25)).alloc (.cells #[.int .i64 i] 3)).alloc (.cells #[.slice ca cl cc] 33) := by
  have hmf : ∀ (fn : Fn) (first cap : Array Value) (w : World), (Instr.makeFunc fn first cap).run Tryz.prog w = .ok (.func fn first cap) w := fun _ _ _ _ => rfl
  go_enter Tryz.func41, Tryz.ntmps41
  go_wp2_with fail
  go_ret
  exact ⟨rfl, rfl⟩
set_option maxHeartbeats 8000000 in
theorem rounds1_ok (n : Nat) (hn : 1 ≤ n) (b b1 b2 : Nat) (ta : Option Addr) (tc : Nat) (oa : Option Addr) (oc : Nat) (ts : List DT) (os : List DO) (i : Int) (ca : Option Addr) (cl cc : Nat) (g : Nat → Int) (N : Nat) (w : World) (hN : N = 10001)
    (hb0 : w.cell? ⟨b, 0, none⟩ = some (.slice ta ts.length tc) ∧ w.cell? ⟨b, 1, none⟩ = some (.slice oa os.length oc)) (hb1 : w.cell? ⟨b1, 0, none⟩ = some (.int .i64 i)) (hb2 : w.cell? ⟨b2, 0, none⟩ = some (.slice ca cl cc))
    (h1 : g 0 = 1) (hld : ∀ m V, Chg [] w V → Calls Tryz.prog 78 #[.agg #[.slice ta ts.length tc, .slice oa os.length oc], .int .i64 i, .int .i64 (g m), .slice ca cl cc] V fun e V' => e = .returned (.int .i64 (g (m + 1))) ∧ Chg [] V V') :
    IterOK Fence.wide n Tryz.prog 77 #[.pointer (some ⟨b, 0, none⟩), .pointer (some ⟨b1, 0, none⟩), .pointer (some ⟨b2, 0, none⟩)] rdE [] (KpC w.heap.size) (fun xs => xs = rdG g N) (fun pre => pre <+: rdG g N) (fun pre x _ => pre ++ [x] <+: rdG g N) w := fun L J Jx W hW hJ hJx hY h0 => by
  have HB : Hid (∀ (V : World), Chg [] w V → (V.cell? ⟨b, 0, none⟩ = some (.slice ta ts.length tc) ∧ V.cell? ⟨b, 1, none⟩ = some (.slice oa os.length oc)) ∧ V.cell? ⟨b1, 0, none⟩ = some (.int .i64 i) ∧ V.cell? ⟨b2, 0, none⟩ = some (.slice ca cl cc)) := Lib.hid (fun V hV => ⟨⟨hV.keep hb0.1 (by simp), hV.keep hb0.2 (by simp)⟩, hV.keep hb1 (by simp), hV.keep hb2 (by simp)⟩)
  have HJ := Lib.hid hJ
  have HY := Lib.hid hY
  have HLD := Lib.hid hld
  have HW := Lib.hid hW
  have HNN := Lib.hid hN
  have H1 := Lib.hid h1
  clear hb0 hb1 hb2 hld hN hJ hY hW h1
  refine callsIn_of_wp Tryz.func77 rfl trivial ?_ rfl
  simp only [Tryz.ntmps77, List.size_toArray, List.length_cons, List.length_nil, Nat.reduceAdd, Nat.reduceSub, Array.replicate_succ, Array.replicate_zero, List.push_toArray, List.append_toArray, List.nil_append, List.cons_append]
  gi_wp2
  gi_loopw [5, 7] (fun r i wr => ∃ m : Nat, m ≤ N ∧ i = .int .i64 (m : Int) ∧ r = .int .i64 (g m) ∧ Hid (J ((rdG g N).take m) wr) ∧ Hid (Chg [] w wr)) (fun _ i _ => N - (intOf i).toNat)
  case atStart => exact ⟨0, Nat.zero_le _, rfl, by rw [H1.out], Lib.hid h0, HW⟩
  case round =>
    obtain ⟨m, hm, rfl, rfl, HJS, HKR⟩ := hrel
    by_cases hlt : m < N
    · have HLT := Lib.hid hlt
      have mm : (m : Int) < 10001 := by have := HNN.out; omega
      have hwg := rdG_get g hlt
      have HWG := Lib.hid hwg
      obtain ⟨⟨c0, c1⟩, c2, c3⟩ := HB.out wr HKR.out
      have hLX := HLD.out m wr HKR.out
      obtain ⟨gm, hgm⟩ : ∃ x, g m = x := ⟨_, rfl⟩
      obtain ⟨gn, hgn⟩ : ∃ x, g (m + 1) = x := ⟨_, rfl⟩
      rw [hgm, hgn] at hLX HWG
      rw [hgm]
      have HGN := Lib.hid hgn
      have HLX := Lib.hid hLX
      have k9 : IntKind.i64.wrap ((m : Int) + 1) = (m : Int) + 1 := by rw [IntKind.wrap_i64]; omega
      clear hm hlt hwg hLX hgm hgn
      gi_wp2_with (refine ⟨trivial, ?_⟩; gi_at_call 78; refine (callsIn_wide.2 HLX.out).mono ?_; rintro e w4 ⟨rfl, hc4⟩; have HK4 := Lib.hid (HKR.out.trans hc4); obtain ⟨fn, tmps, assign, body, hy, hR⟩ := HY.out _ (gm, gn) w4 (HJ.out _ _ _ HJS.out hc4) (prefix_snoc HWG.out); unfold rdE at hy; simp only at hy; clear hc4)
      refine hR.mono ?_
      rintro e W3 (⟨rfl, hJ3, hk3⟩ | ⟨rfl, hJx3⟩)
      · have HK3 : Hid (Chg [] w W3) := Lib.hid (KpC.chg HK4.out hk3)
        have HJ3 : Hid (J ((rdG g N).take (m + 1)) W3) := Lib.hid (by rw [take_snoc HWG.out]; exact hJ3)
        clear hk3 hJ3 c0 c1 c2 c3 hy hR
        gi_wp2
        have hlt := HLT.out
        go_roundw
        case rel => exact ⟨m + 1, by omega, by go_num, by rw [HGN.out], HJ3, HK3⟩
        case measure => (simp [intOf]) <;> omega
      · gi_wp2
        refine bodyPost_ret (results_none rfl _ _ _) rfl ?_
        exact ⟨⟨_, rfl⟩, .inr ⟨_, prefix_snoc HWG.out, hJx3⟩⟩
    · obtain rfl : N = m := by omega
      have mm : ¬ (N : Int) < 10001 := by have := HNN.out; omega
      clear hlt hm
      have HJE : Hid (J (rdG g N) wr) := Lib.hid (by have h := HJS.out; have h2 := List.take_length (l := rdG g N); rw [rdG_len] at h2; rwa [h2] at h)
      gi_wp2
      go_end0
      exact ⟨⟨_, rfl⟩, .inl (by first | exact ⟨_, rfl, HJE.out⟩ | exact HJE.out)⟩
theorem goR_skip (f : Int → Int) (d : Int) : ∀ (m n : Nat) (r : Int), (∀ k, k < m → ¬ d < it f k r ∧ it f k r ≠ it f (k + 1) r) → goR f d (m + n) r = goR f d n (it f m r)
  | 0, n, r, _ => by rw [Nat.zero_add]; rfl
  | m + 1, n, r, h => by
    have h0 := h 0 (by omega)
    simp only [it] at h0
    rw [show m + 1 + n = (m + n) + 1 by omega]
    rw [show goR f d ((m + n) + 1) r = if d < r then (0, 13) else if r = f r then (r, 0) else goR f d (m + n) (f r) from rfl, if_neg h0.1, if_neg h0.2]
    exact goR_skip f d m n (f r) (fun k hk => h (k + 1) (by omega))
theorem rd_stop {f : Int → Int} {d : Int} {N : Nat} {pre : List (Int × Int)} {x : Int × Int} (hp : pre ++ [x] <+: rdG (fun k => it f k 1) N) (hn : ∀ y ∈ pre, ¬ d < y.1 ∧ y.1 ≠ y.2) : ∃ n, goR f d N 1 = goR f d (n + 1) x.1 ∧ x.2 = f x.1 := by
  have hlen := hp.length_le
  rw [rdG_len, List.length_append, List.length_singleton] at hlen
  have hx : (rdG (fun k => it f k 1) N)[pre.length]? = some x := by
    obtain ⟨t, ht⟩ := hp
    rw [← ht, List.append_assoc, List.getElem?_append_right (Nat.le_refl _), Nat.sub_self]
    rfl
  rw [rdG_get _ (by omega)] at hx
  obtain rfl := Option.some.inj hx
  have hk : ∀ k, k < pre.length → ¬ d < it f k 1 ∧ it f k 1 ≠ it f (k + 1) 1 := fun k hk => by
    have h1 : (rdG (fun k => it f k 1) N)[k]? = pre[k]? := by
      obtain ⟨t, ht⟩ := hp
      rw [← ht, List.append_assoc, List.getElem?_append_left hk]
    rw [rdG_get _ (by omega)] at h1
    exact hn _ (List.mem_of_getElem? h1.symm)
  refine ⟨N - (pre.length + 1), ?_, it_succ _ _ _⟩
  have h := goR_skip f d pre.length (N - pre.length) 1 hk
  rw [show pre.length + (N - pre.length) = N by omega] at h
  rw [h, show N - pre.length = N - (pre.length + 1) + 1 by omega]
theorem rd_done {f : Int → Int} {d : Int} {N : Nat} (hn : ∀ y ∈ rdG (fun k => it f k 1) N, ¬ d < y.1 ∧ y.1 ≠ y.2) : goR f d N 1 = (0, 14) := by
  have h := goR_skip f d N 0 1 (fun k hk => hn _ (List.mem_of_getElem? (rdG_get _ hk)))
  rw [Nat.add_zero] at h
  rw [h]
  rfl
theorem aggI (w : World) : (isAgg 3).run Tryz.prog w = .ok false w := run_isAgg_plain Tryz.underlying3 rfl w
theorem aggE (w : World) : (isAgg 34).run Tryz.prog w = .ok false w := run_isAgg_plain Tryz.underlying34 rfl w
theorem results_cells {P : Program} {fn : Func} {p q : Tmp} {ty tq : TypeId} (h : fn.results = #[.cell p ty, .cell q tq]) (tmps : Array Value) (w : World) (g : Nat) (v : Value) (g2 : Nat) (v2 : Value)
    (hp : tmps.getD p undef = .pointer (some ⟨g, 0, none⟩)) (hq : tmps.getD q undef = .pointer (some ⟨g2, 0, none⟩)) (a1 : (isAgg ty).run P w = .ok false w) (c1 : w.cell? ⟨g, 0, none⟩ = some v) (a2 : (isAgg tq).run P w = .ok false w) (c2 : w.cell? ⟨g2, 0, none⟩ = some v2) :
    (results fn tmps).run P w = .ok (.tuple #[v, v2]) w := by
  have hp' : tmps[p]?.getD undef = .pointer (some ⟨g, 0, none⟩) := by simpa using hp
  have hq' : tmps[q]?.getD undef = .pointer (some ⟨g2, 0, none⟩) := by simpa using hq
  have hl1 : (loadVar ty ⟨g, 0, none⟩).run P w = .ok v w := by simp [loadVar, a1, c1, go_sem]
  have hl : (loadVar tq ⟨g2, 0, none⟩).run P w = .ok v2 w := by simp [loadVar, a2, c2, go_sem]
  simp [results, h, hp', hq', asAddr, hl1, hl]
end Go.Proofs.YtkedegbpkkgeaaaGreat.tf
