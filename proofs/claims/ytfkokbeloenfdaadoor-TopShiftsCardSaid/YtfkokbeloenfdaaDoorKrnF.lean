/- The kernel: the iterator of agenda.due. -/
import Derived.Test.YtfkokbeloenfdaaDoorKrnE
import Derived.Test.YtfkokbeloenfdaaDoorIter2
import Derived.RegionIn
import Derived.BigRegionIn
namespace Go.Proofs.YtfkokbeloenfdaaDoor.krn
open Go Go.RowKit Go.Proofs.YtfkokbeloenfdaaDoor.kit
set_option linter.unusedVariables false
set_option linter.unusedSimpArgs false
set_option maxRecDepth 20000
attribute [local go_sem] Oper.semAt_some
/-- the dues of times up to t, and what is left -/
def untilM (t : Int) (ds : List Du) : List Du × List Du :=
  match h : ds with
  | [] => ([], [])
  | d :: r => if d.at_ ≤ t then (d :: (untilM t (popM ds)).1, (untilM t (popM ds)).2) else ([], ds)
termination_by ds.length
decreasing_by
  all_goals (subst h; rw [popM_len]; simp)
theorem untilM_nil (t : Int) : untilM t [] = ([], []) := by rw [untilM]
theorem untilM_cons (t : Int) (d : Du) (r : List Du) : untilM t (d :: r) = if d.at_ ≤ t then (d :: (untilM t (popM (d :: r))).1, (untilM t (popM (d :: r))).2) else ([], d :: r) := by rw [untilM]
def KpH (K0 : List Nat) (W W' : World) : Prop := W.heap.size ≤ W'.heap.size ∧ ∀ k ∈ K0, W'.heap[k]? = W.heap[k]?
theorem KpH.blk {K0 : List Nat} {W W' : World} {b : Nat} {c : Array Value} {T : TypeId} (h : KpH K0 W W') (hb : Blk W b c T) (hm : b ∈ K0) : Blk W' b c T := (h.2 b hm).trans hb
theorem KpH.own {K0 : List Nat} {w w' : World} {B s n : Nat} {T : TypeId} {v : Value} {xs : List Value} (k : KpH K0 w w') (h : w.ownsRow B T s v n xs) (hm : ∀ y, v.ownBlock = some y → y ∈ K0) : w'.ownsRow B T s v n xs := by
  obtain ⟨h1, h2⟩ := h
  refine ⟨h1, ?_⟩
  rcases h2 with h2 | ⟨g, cap, cur, rfl, hB, hg, h3⟩
  · exact .inl h2
  · exact .inr ⟨g, cap, cur, rfl, hB, (k.2 g (hm g rfl)).trans hg, h3⟩
def agLen (w : World) (db : Nat) : Nat := match w.cell? ⟨db, 1, none⟩ with
  | some (.slice _ n _) => n
  | _ => 0
theorem agLen_of {w : World} {db : Nat} {room : Int} {a : Option Addr} {c n : Nat} (h : agB w db room (.slice a n c)) : agLen w db = n := by
  have h1 := h.cell (o := 1) (v := .slice a n c) rfl
  simp [agLen, h1]
theorem due_any (db : Nat) (t : Int) (w : World) :
    Calls Tryd.prog 42 #[.pointer (some ⟨db, 0, none⟩), .int .i64 t] w fun e w' => e = .returned (.func (.func 52) #[] #[.pointer (some ⟨w.heap.size, 0, none⟩), .pointer (some ⟨w.heap.size + 1, 0, none⟩)]) ∧ w' = (w.alloc (.cells #[.pointer (some ⟨db, 0, none⟩)] 63)).alloc (.cells #[.int .i64 t] 3) := by
  go_enter Tryd.func42, Tryd.ntmps42
  go_wp2_with fail
  go_ret
  exact ⟨rfl, rfl⟩
set_option maxHeartbeats 4000000 in
theorem due1_ok (n : Nat) (hn : 1 ≤ n) (B b1 b2 db c : Nat) (room t : Int) (a : Option Addr) (ds : List Du) (w : World) (hl : ds.length ≤ 4096) (hb1 : Blk w b1 #[.pointer (some ⟨db, 0, none⟩)] 63) (hb2 : Blk w b2 #[.int .i64 t] 3) (ha : AgAt w B db room a c ds) :
    IterOK2 Fence.wide n Tryd.prog 52 #[.pointer (some ⟨b1, 0, none⟩), .pointer (some ⟨b2, 0, none⟩)] (fun x : Du => #[x.val]) (db :: (Value.slice a ds.length c).ownBlock.toList) (KpH (b1 :: b2 :: db :: (Value.slice a ds.length c).ownBlock.toList))
      (fun xs W' => xs = (untilM t ds).1 ∧ AgAt W' B db room a c (untilM t ds).2) (fun pre => pre <+: (untilM t ds).1) (fun pre x _ => pre ++ [x] <+: (untilM t ds).1) w := fun l J Jx W hW hJ hJx hY h0 => by
  have hown : ∀ (m : Nat), (Value.slice a m c).ownBlock = (Value.slice a ds.length c).ownBlock := fun m => by cases a <;> rfl
  have HB1 := Lib.hid (hb1.keep hW (by simp))
  have HB2 := Lib.hid (hb2.keep hW (by simp))
  have HA := Lib.hid (ha.fresh hW)
  have HN1 : Hid (b1 ≠ db ∧ ∀ y, (Value.slice a ds.length c).ownBlock = some y → y ≠ b1) := Lib.hid ⟨fun he => by
    have h9 := ha.1
    rw [← he] at h9
    have h8 := h9.symm.trans hb1
    simp at h8, own_type ha.2 hb1 (by decide)⟩
  have HN2 : Hid (b2 ≠ db ∧ ∀ y, (Value.slice a ds.length c).ownBlock = some y → y ≠ b2) := Lib.hid ⟨fun he => by
    have h9 := ha.1
    rw [← he] at h9
    have h8 := h9.symm.trans hb2
    simp at h8, own_type ha.2 hb2 (by decide)⟩
  have HL := Lib.hid hl
  clear hb1 hb2 ha hW hl
  refine callsIn_of_wp Tryd.func52 rfl trivial ?_ rfl
  simp only [Tryd.ntmps52, List.size_toArray, List.length_cons, List.length_nil, Nat.reduceAdd, Nat.reduceSub, Array.replicate_succ, Array.replicate_zero, List.push_toArray, List.append_toArray, List.nil_append, List.cons_append]
  gi_wp2
  gi_loopw [5] (fun p wr => ∃ (pre rest : List Du), Hid (untilM t ds = (pre ++ (untilM t rest).1, (untilM t rest).2)) ∧ Hid (rest.length ≤ ds.length) ∧ Hid (Blk wr b1 #[.pointer (some ⟨db, 0, none⟩)] 63 ∧ Blk wr b2 #[.int .i64 t] 3 ∧ AgAt wr B db room a c rest) ∧ J pre wr) (fun p wr => agLen wr db)
  case atStart => exact ⟨[], ds, Lib.hid rfl, Lib.hid (Nat.le_refl _), Lib.hid ⟨HB1.out, HB2.out, HA.out⟩, h0⟩
  case round =>
    obtain ⟨pre, rest, HU, HRL, HBS, hJs⟩ := hrel
    have p1 : wr.cell? ⟨b1, 0, none⟩ = some (.pointer (some ⟨db, 0, none⟩)) := HBS.out.1.cell rfl
    have HPK := Lib.hid (Peek_any B db room a c rest wr HBS.out.2.2)
    cases rest with
    | nil =>
      rw [show peekV [] = .tuple #[.agg #[.int .i64 0, .int .i64 0], .bool false] from rfl] at HPK
      gi_wp2_with (refine ⟨trivial, ?_⟩; gi_at_call 53; refine (callsIn_wide.2 HPK.out).mono ?_; rintro e w1 ⟨rfl, hc1⟩)
      refine bodyPost_ret (results_none rfl _ _ _) rfl ?_
      refine ⟨⟨_, rfl⟩, .inl ⟨pre, ⟨?_, ?_⟩, hJ _ _ _ hJs ((hc1.mono (by simp)).alloc _)⟩⟩
      · rw [HU.out, untilM_nil]; simp
      · rw [HU.out, untilM_nil]; exact HBS.out.2.2.fresh (hc1.alloc _)
    | cons d r =>
      obtain ⟨at_, tk⟩ := d
      rw [show peekV (⟨at_, tk⟩ :: r) = .tuple #[.agg #[.int .i64 at_, .int .i64 tk], .bool true] from rfl] at HPK
      obtain ⟨g, c', hv, hB, hg⟩ := own_addr HBS.out.2.2.2 (by simp)
      simp only [Value.slice.injEq] at hv
      obtain ⟨rfl, -, rfl⟩ := hv
      have HBD : Hid (∀ w1, Chg [] wr w1 → Blk (w1.alloc (.cells #[.int .i64 at_, .int .i64 tk] 35)) b2 #[.int .i64 t] 3 ∧ Blk (w1.alloc (.cells #[.int .i64 at_, .int .i64 tk] 35)) b1 #[.pointer (some ⟨db, 0, none⟩)] 63) := Lib.hid (fun w1 h => ⟨(HBS.out.2.1.keep h (by simp)).alloc _, (HBS.out.1.keep h (by simp)).alloc _⟩)
      have HGL : Hid (g < wr.heap.size ∧ db < wr.heap.size) := Lib.hid ⟨hg, HBS.out.2.2.1.lt⟩
      by_cases hat : at_ ≤ t
      · have m1 : ¬ t < at_ := by omega
        have HUN : Hid (untilM t (⟨at_, tk⟩ :: r) = (⟨at_, tk⟩ :: (untilM t (popM (⟨at_, tk⟩ :: r))).1, (untilM t (popM (⟨at_, tk⟩ :: r))).2)) := Lib.hid (by rw [untilM_cons, if_pos hat])
        clear hat hB hg
        have HPP := Lib.hid (fun u (h : Chg [] wr u) => Pop_any B db g c room ⟨at_, tk⟩ r u (HBS.out.2.2.fresh h) (by have := HRL.out; have := HL.out; omega))
        gi_wp2_with (first | (refine ⟨trivial, ?_⟩; gi_at_call 53; refine (callsIn_wide.2 HPK.out).mono ?_; rintro e w1 ⟨rfl, hc1⟩; have HC1 := Lib.hid hc1; obtain ⟨q2, q1⟩ := HBD.out w1 hc1; have q2c : (w1.alloc (.cells #[.int .i64 at_, .int .i64 tk] 35)).cell? ⟨b2, 0, none⟩ = some (.int .i64 t) := q2.cell rfl; have q1c : (w1.alloc (.cells #[.int .i64 at_, .int .i64 tk] 35)).cell? ⟨b1, 0, none⟩ = some (.pointer (some ⟨db, 0, none⟩)) := q1.cell rfl; clear q1 q2 hc1) | (refine ⟨trivial, ?_⟩; gi_at_call 54; refine (callsIn_wide.2 (HPP.out _ (HC1.out.alloc _))).mono ?_; rintro e w2 ⟨rfl, ha2, hc2⟩; have HA2 := Lib.hid ha2; have HC2 := Lib.hid hc2; have HD2 := Lib.hid ((Blk.new w1 #[.int .i64 at_, .int .i64 tk] 35).keep hc2 (by have h8 := HC1.out.size; have h9 := HGL.out; simp; omega)); clear ha2 hc2; have y0 : w2.cell? ⟨w1.heap.size, 0, none⟩ = some (.int .i64 at_) := HD2.out.cell rfl; have y1 : w2.cell? ⟨w1.heap.size, 1, none⟩ = some (.int .i64 tk) := HD2.out.cell rfl))
        have hcw : Chg (db :: (Value.slice (some ⟨g, 0, none⟩) ds.length c).ownBlock.toList) wr w2 := ((HC1.out.alloc _).mono (by simp)).trans (HC2.out.mono (by simp [Value.ownBlock]))
        have hJV := hJ pre wr w2 hJs hcw
        have hpf : pre ++ [⟨at_, tk⟩] <+: (untilM t ds).1 := by rw [HU.out, HUN.out]; exact ⟨(untilM t (popM (⟨at_, tk⟩ :: r))).1, by simp⟩
        have HB1' : Hid (Blk w2 b1 #[.pointer (some ⟨db, 0, none⟩)] 63) := Lib.hid (HBS.out.1.keep hcw (fun hm => by
          have h8 := HN1.out
          rcases List.mem_cons.1 hm with h | h
          · exact h8.1 h
          · exact h8.2 b1 (Option.mem_toList.1 h) rfl))
        have HB2' : Hid (Blk w2 b2 #[.int .i64 t] 3) := Lib.hid (HBS.out.2.1.keep hcw (fun hm => by
          have h8 := HN2.out
          rcases List.mem_cons.1 hm with h | h
          · exact h8.1 h
          · exact h8.2 b2 (Option.mem_toList.1 h) rfl))
        obtain ⟨fn, tmps, assign, body, hy, hR⟩ := hY pre ⟨at_, tk⟩ w2 hJV hpf
        dsimp only [Du.val] at hy
        clear hJV hcw
        rw [hy]
        gi_wp2
        refine hR.mono ?_
        rintro e W3 (⟨rfl, hJ3, hk3⟩ | ⟨rfl, hJx3⟩)
        · have HBS3 : Hid (Blk W3 b1 #[.pointer (some ⟨db, 0, none⟩)] 63 ∧ Blk W3 b2 #[.int .i64 t] 3 ∧ AgAt W3 B db room (some ⟨g, 0, none⟩) c (popM (⟨at_, tk⟩ :: r))) := Lib.hid ⟨hk3.blk HB1'.out (by simp), hk3.blk HB2'.out (by simp), hk3.blk HA2.out.1 (by simp), hk3.own HA2.out.2 (fun y hy => by
            simp only [Value.ownBlock, Option.map_some, Option.some.injEq] at hy
            subst hy
            simp [Value.ownBlock])⟩
          gi_wp2
          go_roundw
          case rel => exact ⟨pre ++ [⟨at_, tk⟩], popM (⟨at_, tk⟩ :: r), Lib.hid (by rw [HU.out, HUN.out]; simp), Lib.hid (by rw [popM_len]; have := HRL.out; simp at this ⊢; omega), HBS3, hJ3⟩
          case measure => rw [agLen_of HBS3.out.2.2.1, agLen_of HBS.out.2.2.1, popM_len]; simp
        · gi_wp2
          refine bodyPost_ret (results_none rfl _ _ _) rfl ?_
          exact ⟨⟨_, rfl⟩, .inr ⟨pre ++ [⟨at_, tk⟩], hpf, hJx3⟩⟩
      · have m1 : t < at_ := by omega
        have HUN : Hid (untilM t (⟨at_, tk⟩ :: r) = ([], ⟨at_, tk⟩ :: r)) := Lib.hid (by rw [untilM_cons, if_neg hat])
        clear hat hB hg
        gi_wp2_with (refine ⟨trivial, ?_⟩; gi_at_call 53; refine (callsIn_wide.2 HPK.out).mono ?_; rintro e w1 ⟨rfl, hc1⟩; have HC1 := Lib.hid hc1; obtain ⟨q2, q1⟩ := HBD.out w1 hc1; have q2c : (w1.alloc (.cells #[.int .i64 at_, .int .i64 tk] 35)).cell? ⟨b2, 0, none⟩ = some (.int .i64 t) := q2.cell rfl; clear q1 q2 hc1)
        refine bodyPost_ret (results_none rfl _ _ _) rfl ?_
        refine ⟨⟨_, rfl⟩, .inl ⟨pre, ⟨?_, ?_⟩, hJ _ _ _ hJs ((HC1.out.mono (by simp)).alloc _)⟩⟩
        · rw [HU.out, HUN.out]; simp
        · rw [HU.out, HUN.out]; exact HBS.out.2.2.fresh (HC1.out.alloc _)
end Go.Proofs.YtfkokbeloenfdaaDoor.krn
