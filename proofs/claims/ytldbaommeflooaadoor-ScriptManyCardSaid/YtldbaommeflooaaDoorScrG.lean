/- Scripts: what is asked for: the iterator of script.walk. -/
import Derived.Test.YtldbaommeflooaaDoorScrF
namespace Go.Proofs.YtldbaommeflooaaDoor.scr
open Go Go.RowKit Go.Proofs.YtldbaommeflooaaDoor.kit Go.Proofs.YtldbaommeflooaaDoor.word Go.Shelf
set_option linter.unusedVariables false
set_option linter.unusedSimpArgs false
set_option maxRecDepth 20000
attribute [local go_sem] Oper.semAt_some
def walkL : List Ac → Int → List (Int × Ac)
  | [], _ => []
  | a :: l, t => (t, a) :: walkL l (tickS t a)
theorem walkL_get : ∀ (l : List Ac) (t : Int) (j : Nat) (a : Ac), l[j]? = some a → (walkL l t)[j]? = some ((l.take j).foldl tickS t, a)
  | [], t, j, a, h => by simp at h
  | x :: l, t, 0, a, h => by simp at h; subst h; rfl
  | x :: l, t, j + 1, a, h => by
    rw [walkL, List.getElem?_cons_succ, walkL_get l (tickS t x) j a (by simpa using h)]
    rfl
theorem walkL_len : ∀ (l : List Ac) (t : Int), (walkL l t).length = l.length
  | [], _ => rfl
  | _ :: l, t => by simp [walkL, walkL_len l]
def KpW (n₀ b : Nat) (W W' : World) : Prop := W.heap.size ≤ W'.heap.size ∧ (∀ k, k < n₀ → W'.heap[k]? = W.heap[k]?) ∧ W'.heap[b]? = W.heap[b]? ∧ ∀ c T, W.heap[W.heap.size - 1]? = some (.cells c T (0, 0)) → W'.heap[W.heap.size - 1]? = some (.cells c T (0, 0))
theorem walk_any (v : Value) (w : World) (a : Option Addr) (n c : Nat) (hv : v = .slice a n c) :
    Calls Tryd.prog 26 #[v] w fun e w' => e = .returned (.func (.func 38) #[] #[.pointer (some ⟨w.heap.size, 0, none⟩)]) ∧ w' = w.alloc (.cells #[v] 22) := by
  subst hv
  go_enter Tryd.func26, Tryd.ntmps26
  go_wp2_with fail
  go_ret
  exact ⟨rfl, rfl⟩
/-- what the iterator says of the world at a round: the act's own block lies last -/
def RW (l : List Ac) (pre : List (Int × Ac)) (x : Int × Ac) (W : World) : Prop := pre ++ [x] <+: walkL l 0 ∧ 0 < W.heap.size ∧ ∃ c, W.heap[W.heap.size - 1]? = some (.cells c 43 (0, 0))
theorem prefix_snoc {α : Type} {xs : List α} {j : Nat} {x : α} (h : xs[j]? = some x) : xs.take j ++ [x] <+: xs := by
  have hj := List.getElem?_eq_some_iff.1 h
  have : xs.take (j + 1) = xs.take j ++ [x] := by rw [List.take_succ_eq_append_getElem hj.1, hj.2]
  rw [← this]
  exact List.take_prefix _ _
set_option maxHeartbeats 2000000 in
theorem walk1_ok (n : Nat) (hn : 1 ≤ n) (b : Nat) (va : Option Addr) (lc : Nat) (l : List Ac) (W0 : World) (hr : ReadsA W0 (.slice va l.length lc) l) (w : World) (hkp : ∀ k, k < W0.heap.size → w.heap[k]? = W0.heap[k]?)
    (hb : Blk w b #[.slice va l.length lc] 22) :
    IterOK Fence.wide n Tryd.prog 38 #[.pointer (some ⟨b, 0, none⟩)] (fun x : Int × Ac => #[.int .i64 x.1, x.2.val]) [] (KpW W0.heap.size b) (fun xs => xs = walkL l 0) (fun pre => pre <+: walkL l 0) (RW l) w := fun L J Jx W hW hJ hJx hY h0 => by
  have hbW : Blk W b #[.slice va l.length lc] 22 := hb.keep hW (by simp)
  have hkW : ∀ k, k < W0.heap.size → W.heap[k]? = W0.heap[k]? := fun k hk => by
    rw [← hkp k hk]
    refine hW.block k ?_ (by simp)
    have := hkp k hk
    rw [Array.getElem?_eq_getElem hk] at this
    exact (Array.getElem?_eq_some_iff.1 this).1
  obtain ⟨b1, o1, hx1, hc1, -⟩ := reads_index (P := Tryd.prog) Tryd.underlying22 szAct hr.1
  have hcK : ∀ (V : World) (o : Nat) (v : Value), (∀ k, k < W0.heap.size → V.heap[k]? = W0.heap[k]?) → W0.cell? ⟨b1, o, none⟩ = some v → V.cell? ⟨b1, o, none⟩ = some v := fun V o v hV h => by
    have hlt : b1 < W0.heap.size := by
      rcases Nat.lt_or_ge b1 W0.heap.size with h' | h'
      · exact h'
      · simp [World.cell?, Array.getElem?_eq_none h'] at h
    unfold World.cell? at h ⊢
    rw [hV b1 hlt]
    exact h
  have HX1 := Lib.hid hx1
  have HC1 := Lib.hid hc1
  have HCK := Lib.hid hcK
  have HLE : Hid (l.length ≤ 9223372036854775807) := Lib.hid (by have := hr.1.le; unfold maxLen at this; exact this)
  have HJ := Lib.hid hJ
  have HKW := Lib.hid hkW
  clear hx1 hc1 hcK hkW hkp hb hW hr
  refine callsIn_of_wp Tryd.func38 rfl trivial ?_ rfl
  simp only [Tryd.ntmps38, List.size_toArray, List.length_cons, List.length_nil, Nat.reduceAdd, Nat.reduceSub, Array.replicate_succ, Array.replicate_zero, List.push_toArray, List.append_toArray, List.nil_append, List.cons_append]
  have cW : W.cell? ⟨b, 0, none⟩ = some (.slice va l.length lc) := hbW.cell rfl
  gi_wp2
  gi_loopw [3, 8] (fun t i wr => ∃ j : Nat, j ≤ l.length ∧ i = .int .i64 j ∧ t = .int .i64 ((l.take j).foldl tickS 0) ∧ Hid (J ((walkL l 0).take j) wr) ∧ Hid (∀ k, k < W0.heap.size → wr.heap[k]? = W0.heap[k]?) ∧ Hid (Blk wr b #[.slice va l.length lc] 22)) (fun _ i _ => l.length - (intOf i).toNat)
  case atStart => exact ⟨0, Nat.zero_le _, rfl, rfl, Lib.hid h0, HKW, Lib.hid hbW⟩
  case round =>
    obtain ⟨j, hj, rfl, rfl, HJS, HKR, HBR⟩ := hrel
    by_cases hlt : j < l.length
    · have HLT := Lib.hid hlt
      have g1 := HX1.out j hlt
      obtain ⟨⟨k, n_⟩, htk⟩ : ∃ t, l[j]? = some t := ⟨_, List.getElem?_eq_getElem hlt⟩
      have q0 := HCK.out wr _ _ HKR.out (HC1.out (j * 2 + 0) _ (by rw [flatMap_get Ac.cells 2 (fun _ => rfl) l j 0 (by decide) _ htk]; rfl))
      have q1 := HCK.out wr _ _ HKR.out (HC1.out (j * 2 + 1) _ (by rw [flatMap_get Ac.cells 2 (fun _ => rfl) l j 1 (by decide) _ htk]; rfl))
      rw [Nat.add_zero] at q0
      rw [← Nat.add_assoc] at q1
      have HS := Lib.hid (take_foldl tickS 0 htk)
      have hwg := walkL_get l 0 j _ htk
      have k8 : IntKind.i64.wrap ((j : Int) + 1) = (j : Int) + 1 := by rw [IntKind.wrap_i64]; have := HLE.out; omega
      obtain ⟨t, ht⟩ : ∃ t, (l.take j).foldl tickS 0 = t := ⟨_, rfl⟩
      rw [ht] at HS hwg
      rw [ht]
      have hRW : RW l ((walkL l 0).take j) (t, ⟨k, n_⟩) (wr.alloc (.cells #[.int .i64 k, .int .i64 n_] 43)) := ⟨prefix_snoc hwg, by simp, _, by rw [World.size_alloc, Nat.add_sub_cancel]; exact Blk.new wr #[.int .i64 k, .int .i64 n_] 43⟩
      have hJV := HJ.out _ _ _ HJS.out ((Chg.refl [] wr).alloc (.cells #[.int .i64 k, .int .i64 n_] 43))
      obtain ⟨fn, tmps, assign, body, hy, hR⟩ := hY _ (t, ⟨k, n_⟩) _ hJV hRW
      have HTK := Lib.hid htk
      have HWG := Lib.hid hwg
      have HPF := Lib.hid hRW.1
      clear htk hj hlt ht hwg hRW hJV
      gi_wp2
      refine hR.mono ?_
      rintro e W3 (⟨rfl, hJ3, hk3⟩ | ⟨rfl, hJx3⟩)
      · obtain ⟨hz1, hz2, hz3, hz4⟩ := hk3
        have hlast : Blk W3 wr.heap.size #[.int .i64 k, .int .i64 n_] 43 := by
          rw [World.size_alloc, Nat.add_sub_cancel] at hz4
          exact hz4 _ _ (Blk.new wr #[.int .i64 k, .int .i64 n_] 43)
        have d0 : W3.cell? ⟨wr.heap.size, 0, none⟩ = some (.int .i64 k) := hlast.cell rfl
        have d1 : W3.cell? ⟨wr.heap.size, 1, none⟩ = some (.int .i64 n_) := hlast.cell rfl
        have HK3 : Hid (∀ k, k < W0.heap.size → W3.heap[k]? = W0.heap[k]?) := Lib.hid (fun q hq => by
          have h1 := HKR.out q hq
          have h2 : q < wr.heap.size := by rw [Array.getElem?_eq_getElem hq] at h1; exact (Array.getElem?_eq_some_iff.1 h1).1
          rw [hz2 q hq, ((Chg.refl [] wr).alloc _).block q h2 (by simp), h1])
        have HB3 : Hid (Blk W3 b #[.slice va l.length lc] 22) := Lib.hid (hz3.trans (HBR.out.alloc _))
        have HJ3 : Hid (J ((walkL l 0).take (j + 1)) W3) := Lib.hid (by
          have hg := List.getElem?_eq_some_iff.1 HWG.out
          rw [List.take_succ_eq_append_getElem hg.1, hg.2]
          exact hJ3)
        clear hz1 hz2 hz3 hz4 hlast hJ3 q0 q1 hy hR
        by_cases c1 : k = 1
        · subst c1
          gi_wp2_with (refine ⟨trivial, ?_⟩; gi_at_call 22; refine (callsIn_wide.2 (Add_any _ _ _)).mono ?_; rintro e w' ⟨rfl, rfl⟩)
          have hltj := HLT.out
          go_roundw
          case rel => exact ⟨j + 1, by omega, by go_num, by rw [HS.out]; rfl, HJ3, HK3, HB3⟩
          case measure => simp [intOf]; omega
        · have c1' : (k == 1) = false := by simpa using c1
          have HCK1 := Lib.hid c1
          clear c1
          gi_wp2
          have hltj := HLT.out
          go_roundw
          case rel => exact ⟨j + 1, by omega, by go_num, by rw [HS.out]; unfold tickS; rw [if_neg HCK1.out], HJ3, HK3, HB3⟩
          case measure => simp [intOf]; omega
      · gi_wp2
        refine bodyPost_ret (results_none rfl _ _ _) rfl ?_
        exact ⟨⟨_, rfl⟩, .inr ⟨_, HPF.out, hJx3⟩⟩
    · obtain rfl : l.length = j := by omega
      clear hlt hj
      have hfull : (walkL l 0).take l.length = walkL l 0 := by rw [← walkL_len l 0, List.take_length]
      rw [hfull] at HJS
      gi_wp2
      go_end0
      exact ⟨⟨_, rfl⟩, .inl ⟨_, rfl, HJS.out⟩⟩
structure Du where
  at_ : Int
  task : Int
def Du.cells (d : Du) : List Value := [.int .i64 d.at_, .int .i64 d.task]
def OwnD (w : World) (B : Nat) (v : Value) (l : List Du) : Prop := w.ownsRow B 28 2 v l.length (l.flatMap Du.cells)
def dueOf (x : Int × Ac) : Option Du := if x.2.k = 2 then some ⟨x.1, x.2.n⟩ else none
def asksL (l : List Ac) : List Du := (walkL l 0).filterMap dueOf
theorem infoDue : (Tryd.prog.info? 28).map (fun i => (i.zero, i.size, i.bytes)) = some (some (.agg #[.int .i64 0, .int .i64 0]), 2, 16) := by kernel_rfl
theorem OwnD.keep {w w' : World} {B : Nat} {v : Value} {l : List Du} {L : List Nat} (h : OwnD w B v l) (k : Chg L w w') (hn : ∀ y ∈ L, y < B) : OwnD w' B v l := by
  obtain ⟨h1, h2⟩ := h
  refine ⟨h1, ?_⟩
  rcases h2 with h2 | ⟨g, cap, cur, rfl, hB, hg, h3⟩
  · exact .inl h2
  · exact .inr ⟨g, cap, cur, rfl, hB, k.heap hg (fun hin => by have := hn g hin; omega), h3⟩
theorem OwnD.mono {w : World} {B B' : Nat} {v : Value} {l : List Du} (h : OwnD w B v l) (hb : B' ≤ B) : OwnD w B' v l := by
  obtain ⟨h1, h2⟩ := h
  refine ⟨h1, ?_⟩
  rcases h2 with h2 | ⟨g, cap, cur, rfl, hB, hg, h3⟩
  · exact .inl h2
  · exact .inr ⟨g, cap, cur, rfl, by omega, hg, h3⟩
/-- the row of dues is no act's block -/
theorem OwnD.not_act {w : World} {B q : Nat} {v : Value} {l : List Du} {c : Array Value} (h : OwnD w B v l) (hq : w.heap[q]? = some (.cells c 43 (0, 0))) : q ∉ v.ownBlock.toList := by
  intro hm
  obtain ⟨h1, h2⟩ := h
  rcases h2 with ⟨rfl, h2⟩ | ⟨g, cap, cur, rfl, hB, hg, h3⟩
  · simp [Value.ownBlock] at hm
  · simp [Value.ownBlock] at hm
    subst hm
    rw [hg] at hq
    simp at hq
/-- between two rounds -/
def PA (G D : Nat) (W : World) (pre : List (Int × Ac)) (V : World) : Prop := ∃ v, Blk V G #[v] 24 ∧ OwnD V (D + 2) v (pre.filterMap dueOf) ∧ Chg [] W V
theorem PA.keep {G D : Nat} {W A B : World} {pre : List (Int × Ac)} {L : List Nat} (h : PA G D W pre A) (k : Chg L A B) (hL : ∀ y ∈ L, W.heap.size ≤ y ∧ G < y ∧ y < D + 2) : PA G D W pre B := by
  obtain ⟨v, h2, h3, h7⟩ := h
  refine ⟨v, h2.keep k (fun hn => ?_), h3.keep k (fun y hy => (hL y hy).2.2), h7.into k (fun y hy => .inr (hL y hy).1)⟩
  have := hL _ hn; omega
end Go.Proofs.YtldbaommeflooaaDoor.scr
