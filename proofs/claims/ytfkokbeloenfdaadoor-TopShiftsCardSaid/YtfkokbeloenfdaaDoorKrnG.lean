/- The kernel: what an iterator yields, collected: slices.AppendSeq, Collect (printed by krn2.py). -/
import Derived.Test.YtfkokbeloenfdaaDoorKrnF
import Derived.Maps.OwnIn
namespace Go.Proofs.YtfkokbeloenfdaaDoor.krn
open Go Go.RowKit Go.Proofs.YtfkokbeloenfdaaDoor.kit
set_option linter.unusedVariables false
set_option linter.unusedSimpArgs false
set_option maxRecDepth 20000
attribute [local go_sem] Oper.semAt_some
theorem infoInt : (Tryd.prog.info? 3).map (fun i => (i.zero, i.size, i.bytes)) = some (some (.int .i64 0), 1, 8) := by kernel_rfl
def intC (xs : List Nat) : List Value := xs.map fun (x : Nat) => Value.int .i64 (x : Int)
def OwnN (w : World) (B : Nat) (v : Value) (xs : List Nat) : Prop := w.ownsRow B 3 1 v xs.length (intC xs)
theorem OwnN.snoc {w : World} {B : Nat} {v : Value} {xs : List Nat} {x : Nat} (h : w.ownsRow B 3 1 v (xs.length + 1) (intC xs ++ [.int .i64 (x : Int)])) : OwnN w B v (xs ++ [x]) := by
  unfold OwnN intC
  rw [List.length_append, List.map_append]
  simpa [intC] using h
theorem one_cell (w : World) (x : Value) (T : TypeId) : ∀ (j : Nat) u, [x][j]? = some u → (w.alloc (.cells #[x] T)).cell? ((⟨w.heap.size, 0, none⟩ : Addr).add j) = some u := fun j u hj => by
  rw [Go.Proofs.YtfkokbeloenfdaaDoor.kit.add_plain, Nat.zero_add]
  exact (Blk.new w #[x] T).cell (by simpa using hj)
theorem two_cells (w : World) (x y : Value) (T : TypeId) : ∀ (j : Nat) u, [x, y][j]? = some u → (w.alloc (.cells #[x, y] T)).cell? ((⟨w.heap.size, 0, none⟩ : Addr).add j) = some u := fun j u hj => by
  rw [Go.Proofs.YtfkokbeloenfdaaDoor.kit.add_plain, Nat.zero_add]
  exact (Blk.new w #[x, y] T).cell (by simpa using hj)
theorem KpH.put {K0 : List Nat} {A B : World} {o' : Obj} {l : Nat} (hl : ∀ k ∈ K0, k ≠ l) (h : KpH K0 A B) : KpH K0 A (B.putObj l o') :=
  ⟨by simpa [World.putObj] using h.1, fun k hk => by rw [World.putObj_heap_other (hl k hk)]; exact h.2 k hk⟩
theorem KpH.of_chg {K0 L : List Nat} {A B : World} (k : Chg L A B) (h : ∀ x ∈ K0, x < A.heap.size ∧ x ∉ L) : KpH K0 A B := ⟨k.size, fun x hx => k.block x (h x hx).1 (h x hx).2⟩
theorem ownsRow_succint {w : World} {B n : Nat} {v : Value} {xs : List Value} (h : w.ownsRow B 3 1 v (n + 1) xs) : ∃ g cap, v = .slice (some ⟨g, 0, none⟩) (n + 1) cap := by
  obtain ⟨g, c, hv, _⟩ := own_addr h (Nat.succ_pos _)
  exact ⟨g, c, hv⟩
theorem ownsRow_succdue {w : World} {B n : Nat} {v : Value} {xs : List Value} (h : w.ownsRow B 35 2 v (n + 1) xs) : ∃ g cap, v = .slice (some ⟨g, 0, none⟩) (n + 1) cap := by
  obtain ⟨g, c, hv, _⟩ := own_addr h (Nat.succ_pos _)
  exact ⟨g, c, hv⟩
def Pint (L : List Nat) (G D : Nat) (W : World) (pre : List Nat) (V : World) : Prop := ∃ v, Blk V G #[v] 44 ∧ OwnN V (D + 2) v pre ∧ Chg L W V
theorem Pint.keep {L M : List Nat} {G D : Nat} {W A B : World} {pre : List Nat} (h : Pint L G D W pre A) (k : Chg M A B) (hM : ∀ y ∈ M, (y ∈ L ∨ W.heap.size ≤ y) ∧ G ≠ y ∧ y < D + 2) : Pint L G D W pre B := by
  obtain ⟨v, h1, h2, h3⟩ := h
  exact ⟨v, h1.keep k (fun hm => (hM _ hm).2.1 rfl), own_keep h2 k (fun y hy hm => by have h4 := (World.ownsRow.lt h2 y hy).1; have h5 := (hM y hm).2.2; omega), h3.into k (fun y hy => (hM y hy).1)⟩
set_option maxHeartbeats 1000000 in
theorem AppendSeq_int (gf : Nat) (lb : Array Value) (hen : ∀ args w, (callFunc gf args).run Tryd.prog w = .ok (.enter gf args) w) (L K0 : List Nat) (S : List Nat → World → Prop) (Sp : List Nat → Prop) (R : List Nat → Nat → World → Prop) (W : World)
    (hseq : ∀ w0, Chg [] W w0 → IterOK2 Fence.wide 4 Tryd.prog gf lb (fun x : Nat => #[.int .i64 (x : Int)]) L (KpH K0) S Sp R w0) (hL : ∀ b ∈ L, b < W.heap.size) (hK : ∀ b ∈ K0, b < W.heap.size)
    (hS : ∀ xs A B, S xs A → (∀ k, k < W.heap.size → B.heap[k]? = A.heap[k]?) → A.heap.size ≤ B.heap.size → S xs B) (hR : ∀ pre x V, R pre x V → pre.length < 4096) :
    Calls Tryd.prog 61 #[.slice none 0 0, .func (.func gf) #[] lb] W fun e W' => ∃ xs v, e = .returned v ∧ S xs W' ∧ OwnN W' W.heap.size v xs ∧ Chg L W W' := by
  refine (callsIn_wide (n := 5)).1 ?_
  refine callsIn_of_wp_marks Tryd.func61 rfl trivial ?_ rfl
  simp only [Tryd.ntmps61, List.size_toArray, List.length_cons, List.length_nil, Nat.reduceAdd, Nat.reduceSub, Array.replicate_succ, Array.replicate_zero, List.push_toArray, List.append_toArray, List.nil_append, List.cons_append]
  have HSEQ := Lib.hid hseq
  have HLL := Lib.hid hL
  have HKK := Lib.hid hK
  have HSS := Lib.hid hS
  have HRR := Lib.hid hR
  clear hseq hL hK hS hR
  gi_wp2_with fail
  obtain ⟨w0, hw0⟩ : ∃ w0, W.alloc (.cells #[.slice none 0 0] 44) = w0 := ⟨_, rfl⟩
  have hsz : w0.heap.size = W.heap.size + 1 := by rw [← hw0]; simp
  have hch : Chg [] W w0 := by rw [← hw0]; exact (Chg.refl [] W).alloc _
  have hb2 : Blk w0 W.heap.size #[.slice none 0 0] 44 := by rw [← hw0]; exact Blk.new W _ _
  rw [hw0]
  clear hw0
  refine wpIn_rangeFunc_chg2 (α := Nat) rfl (by omega) (gf := gf) (lb := lb) rfl trivial hen (HSEQ.out w0 hch) (fun b hb => by have := HLL.out b hb; omega)
    (fun xs B o' r hl hS => HSS.out xs _ _ hS (fun k hk => World.putObj_heap_other (by omega)) (by simp [World.putObj]))
    (fun A B o' r hl hk => KpH.put (fun k hkk => by have := HKK.out k hkk; omega) hk) (fun _ => rfl)
    (Pint L W.heap.size w0.heap.size W) (fun _ _ _ => False) ?hI ?hIx ?h0 ?hround ?hdone ?hstop
  case hI => exact fun pre A B r h _ k => h.keep k (fun y hy => by
    rcases List.mem_cons.1 hy with rfl | hy
    · omega
    · have := HLL.out y hy; exact ⟨.inl hy, by omega, by omega⟩)
  case hIx => exact fun c pre A B r h _ k => h
  case h0 => exact fun V k => ⟨.slice none 0 0, hb2.keep k (by simp), World.ownsRow_nil .., (hch.trans k).mono (by simp)⟩
  case hround =>
    rintro pre x V r hPI hR hD hl
    gi_wp2
    have hlt : w0.heap.size + 1 < V.heap.size := (Array.getElem?_eq_some_iff.1 hl).1
    obtain ⟨r', hr'⟩ : ∃ r', ({ r with state := .busy } : Loop) = r' := ⟨_, rfl⟩
    rw [hr']
    obtain ⟨V1, hV1⟩ : ∃ V1, (V).putObj (w0.heap.size + 1) (.loop r') = V1 := ⟨_, rfl⟩
    rw [hV1]
    have hlA : (V).heap[w0.heap.size + 1]? = some (.loop r) := hl
    refine ⟨hlA, ?_⟩
    have hcV : Chg [w0.heap.size + 1] V V1 := by rw [← hV1]; exact (Chg.refl [w0.heap.size + 1] V).putObj hlA (.inl (by simp)) _
    have hPI1 := hPI.keep hcV (by simp; omega)
    have hl1 : V1.heap[w0.heap.size + 1]? = some (.loop r') := by rw [← hV1]; exact World.putObj_heap_same (by omega)
    have hD1 : V1.heap[w0.heap.size]? = some (.deferred (some [])) := hcV.heap hD (by simp)
    have HKP : Hid (∀ M V2, Chg M V1 V2 → (∀ y ∈ M, W.heap.size ≤ y) → KpH K0 V V2) := Lib.hid (fun M V2 hk hM => ⟨Nat.le_trans hcV.size hk.size, fun x hx => by
      have h8 := HKK.out x hx
      have h9 : x < V.heap.size := by omega
      rw [hk.block x (Nat.lt_of_lt_of_le h9 hcV.size) (fun hm => by have := hM x hm; omega), hcV.block x h9 (by simp; omega)]⟩)
    clear hPI hl hD hV1 hr' hlA
    obtain ⟨v, h5, hown, hcw⟩ := hPI1
    obtain ⟨a', c', rfl⟩ := own_open hown
    have HLN : Hid (pre.length < 4096) := Lib.hid (HRR.out _ _ _ hR)
    have c5 : V1.cell? ⟨W.heap.size, 0, none⟩ = some (.slice a' pre.length c') := h5.cell rfl
    have f5 := h5.free 0
    have HOWN := Lib.hid hown
    have HCW := Lib.hid hcw
    have HD := Lib.hid (⟨hD1, hl1⟩ : _ ∧ _)
    have HSZ := Lib.hid (⟨hsz, hlt⟩ : _ ∧ _)
    have H5 := Lib.hid h5
    have HCV := Lib.hid hcV
    obtain ⟨i0, hi, hz0, hz1, hz2⟩ := info_parts infoInt
    have hb1 : pre.length + 1 ≤ maxLen := by have := HLN.out; unfold maxLen; omega
    have hb2 : (pre.length + 1) * 8 ≤ 140737488355328 := by have := HLN.out; omega
    have HOA : (V1.alloc (.cells #[.int .i64 (x : Int)] 3)).ownsRow (w0.heap.size + 2) 3 1 (.slice a' pre.length c') pre.length (intC pre) := own_keep HOWN.out ((Chg.refl [] _).alloc _) (by simp)
    have hcc := one_cell V1 (.int .i64 (x : Int)) 3
    have hb3 : w0.heap.size + 2 ≤ (V1.alloc (.cells #[.int .i64 (x : Int)] 3)).heap.size := by rw [World.size_alloc]; have := HSZ.out; have := HCV.out.size; omega
    have HOL := Lib.hid (fun y hy => (World.ownsRow.lt HOWN.out y hy).1)
    clear hR hown hcw hD1 hl1 hlt hsz h5 hcV hch
    gi_wp2_with (gi_at_builtin; refine wpListIn_append_own_at _ rfl (.tmp 8) (.tmp 10) 44 rfl (w0.heap.size + 2) 3 i0 (.int .i64 0) 1 8 Tryd.underlying44 hi hz0 hz1 hz2 rfl (by decide) (.slice a' pre.length c') pre.length (intC pre) rfl HOA ⟨V1.heap.size, 0, none⟩ 1 1 [.int .i64 (x : Int)] rfl rfl hcc (by simp [Value.oneCell']) hb1 hb2 hb3 ?_; intro v' w' hown' hgrow hnil hblk; obtain ⟨g', cap', rfl⟩ := ownsRow_succint hown'; have hka := ((Chg.refl (Value.slice a' pre.length c').ownBlock.toList V1).alloc _).grown hgrow (fun k hk => .inl (Option.mem_toList.2 hk)); have HKA := Lib.hid hka; have HON := Lib.hid hown'; have hnb : ∀ q, q < w0.heap.size + 2 → q ∉ (Value.slice a' pre.length c').ownBlock.toList := fun q hq hm => (by have := HOL.out q (Option.mem_toList.1 hm); omega); have HNB := Lib.hid hnb; have h5b := H5.out.keep hka (hnb _ (by have := HSZ.out; omega)); have H5B := Lib.hid h5b; have c5b : w'.cell? ⟨W.heap.size, 0, none⟩ = some (.slice a' pre.length c') := h5b.cell rfl; have f5b := h5b.free 0; clear hka hown' hgrow hnil hblk hnb h5b)
    have hz := HSZ.out
    have HKB : Hid (Chg (W.heap.size :: (Value.slice a' pre.length c').ownBlock.toList) V1 (w'.setCell ⟨W.heap.size, 0, none⟩ (.slice (some ⟨g', 0, none⟩) (pre.length + 1) cap'))) :=
      Lib.hid ((HKA.out.mono (fun y hy => List.mem_cons_of_mem _ hy)).setCell (.inl (by simp)) _)
    have hmem : ∀ y ∈ (W.heap.size :: (Value.slice a' pre.length c').ownBlock.toList), y = W.heap.size ∨ w0.heap.size + 2 ≤ y := fun y hy => by
      rcases List.mem_cons.1 hy with rfl | hy
      · exact .inl rfl
      · exact .inr (HOL.out y (Option.mem_toList.1 hy))
    refine ⟨⟨HKB.out.heap HD.out.1 (fun hm => by have := hmem _ hm; omega), HKB.out.heap HD.out.2 (fun hm => by have := hmem _ hm; omega)⟩, HKP.out _ _ HKB.out (fun y hy => by have := hmem y hy; omega), .slice (some ⟨g', 0, none⟩) (pre.length + 1) cap', H5B.out.set 0 _, ?_, HCW.out.into HKB.out (fun y hy => .inr (by have := hmem y hy; omega))⟩
    have h9 := own_keep HON.out ((Chg.refl [W.heap.size] w').setCell (p := ⟨W.heap.size, 0, none⟩) (.inl (by simp)) (.slice (some ⟨g', 0, none⟩) (pre.length + 1) cap')) (fun y hy hm => by
      have h8 := (World.ownsRow.lt HON.out y hy).1
      have := List.mem_singleton.1 hm; omega)
    exact OwnN.snoc h9
  case hdone =>
    rintro xs V hS ⟨v, h5, hown, hcw⟩ hK
    obtain ⟨a', c', rfl⟩ := own_open hown
    have HOWN := Lib.hid hown
    have HCW := Lib.hid hcw
    have HK := Lib.hid hK
    have HSZ := Lib.hid hsz
    have HS := Lib.hid hS
    have c5 : V.cell? ⟨W.heap.size, 0, none⟩ = some (.slice a' xs.length c') := h5.cell rfl
    clear hown hcw hK hch hb2 hsz h5 hS
    gi_wp2
    refine ⟨by simp, .inl ⟨_, _, rfl, run_takeDeferred HK.out, ?_⟩⟩
    have hk : Chg [w0.heap.size] V (V.putObj w0.heap.size (.deferred none)) := (Chg.refl _ V).putObj HK.out (.inl (by simp)) _
    have hz := HSZ.out
    refine ⟨_, results_tmp rfl _ _ _, ?_⟩
    exact ⟨xs, _, rfl, HSS.out xs _ _ HS.out (fun k hk => World.putObj_heap_other (by omega)) (by simp [World.putObj]), own_mono (own_keep HOWN.out hk (fun y hy hm => by have h8 := (World.ownsRow.lt HOWN.out y hy).1; have := List.mem_singleton.1 hm; omega)) (by omega), HCW.out.into hk (by simp; omega)⟩
  case hstop => exact fun c pre V hSp h hK => h.elim
theorem Collect_int (gf : Nat) (lb : Array Value) (hen : ∀ args w, (callFunc gf args).run Tryd.prog w = .ok (.enter gf args) w) (L K0 : List Nat) (S : List Nat → World → Prop) (Sp : List Nat → Prop) (R : List Nat → Nat → World → Prop) (W : World)
    (hseq : ∀ w0, Chg [] W w0 → IterOK2 Fence.wide 4 Tryd.prog gf lb (fun x : Nat => #[.int .i64 (x : Int)]) L (KpH K0) S Sp R w0) (hL : ∀ b ∈ L, b < W.heap.size) (hK : ∀ b ∈ K0, b < W.heap.size)
    (hS : ∀ xs A B, S xs A → (∀ k, k < W.heap.size → B.heap[k]? = A.heap[k]?) → A.heap.size ≤ B.heap.size → S xs B) (hR : ∀ pre x V, R pre x V → pre.length < 4096) :
    Calls Tryd.prog 49 #[.func (.func gf) #[] lb] W fun e W' => ∃ xs v, e = .returned v ∧ S xs W' ∧ OwnN W' W.heap.size v xs ∧ Chg L W W' := by
  have HAP := Lib.hid (AppendSeq_int gf lb hen L K0 S Sp R W hseq hL hK hS hR)
  clear hseq hL hK hS hR hen
  go_enter Tryd.func49, Tryd.ntmps49
  go_wp2_with (go_at_call 61; refine HAP.out.mono ?_; rintro e w1 ⟨xs, v, rfl, hs, ho, hc⟩)
  go_ret
  exact ⟨xs, _, rfl, hs, ho, hc⟩
def Pdue (L : List Nat) (G D : Nat) (W : World) (pre : List Du) (V : World) : Prop := ∃ v, Blk V G #[v] 23 ∧ OwnD V (D + 2) v pre ∧ Chg L W V
theorem Pdue.keep {L M : List Nat} {G D : Nat} {W A B : World} {pre : List Du} (h : Pdue L G D W pre A) (k : Chg M A B) (hM : ∀ y ∈ M, (y ∈ L ∨ W.heap.size ≤ y) ∧ G ≠ y ∧ y < D + 2) : Pdue L G D W pre B := by
  obtain ⟨v, h1, h2, h3⟩ := h
  exact ⟨v, h1.keep k (fun hm => (hM _ hm).2.1 rfl), own_keep h2 k (fun y hy hm => by have h4 := (World.ownsRow.lt h2 y hy).1; have h5 := (hM y hm).2.2; omega), h3.into k (fun y hy => (hM y hy).1)⟩
set_option maxHeartbeats 1000000 in
theorem AppendSeq_due (gf : Nat) (lb : Array Value) (hen : ∀ args w, (callFunc gf args).run Tryd.prog w = .ok (.enter gf args) w) (L K0 : List Nat) (S : List Du → World → Prop) (Sp : List Du → Prop) (R : List Du → Du → World → Prop) (W : World)
    (hseq : ∀ w0, Chg [] W w0 → IterOK2 Fence.wide 4 Tryd.prog gf lb (fun x : Du => #[x.val]) L (KpH K0) S Sp R w0) (hL : ∀ b ∈ L, b < W.heap.size) (hK : ∀ b ∈ K0, b < W.heap.size)
    (hS : ∀ xs A B, S xs A → (∀ k, k < W.heap.size → B.heap[k]? = A.heap[k]?) → A.heap.size ≤ B.heap.size → S xs B) (hR : ∀ pre x V, R pre x V → pre.length < 4096) :
    Calls Tryd.prog 51 #[.slice none 0 0, .func (.func gf) #[] lb] W fun e W' => ∃ xs v, e = .returned v ∧ S xs W' ∧ OwnD W' W.heap.size v xs ∧ Chg L W W' := by
  refine (callsIn_wide (n := 5)).1 ?_
  refine callsIn_of_wp_marks Tryd.func51 rfl trivial ?_ rfl
  simp only [Tryd.ntmps51, List.size_toArray, List.length_cons, List.length_nil, Nat.reduceAdd, Nat.reduceSub, Array.replicate_succ, Array.replicate_zero, List.push_toArray, List.append_toArray, List.nil_append, List.cons_append]
  have HSEQ := Lib.hid hseq
  have HLL := Lib.hid hL
  have HKK := Lib.hid hK
  have HSS := Lib.hid hS
  have HRR := Lib.hid hR
  clear hseq hL hK hS hR
  gi_wp2_with fail
  obtain ⟨w0, hw0⟩ : ∃ w0, W.alloc (.cells #[.slice none 0 0] 23) = w0 := ⟨_, rfl⟩
  have hsz : w0.heap.size = W.heap.size + 1 := by rw [← hw0]; simp
  have hch : Chg [] W w0 := by rw [← hw0]; exact (Chg.refl [] W).alloc _
  have hb2 : Blk w0 W.heap.size #[.slice none 0 0] 23 := by rw [← hw0]; exact Blk.new W _ _
  rw [hw0]
  clear hw0
  refine wpIn_rangeFunc_chg2 (α := Du) rfl (by omega) (gf := gf) (lb := lb) rfl trivial hen (HSEQ.out w0 hch) (fun b hb => by have := HLL.out b hb; omega)
    (fun xs B o' r hl hS => HSS.out xs _ _ hS (fun k hk => World.putObj_heap_other (by omega)) (by simp [World.putObj]))
    (fun A B o' r hl hk => KpH.put (fun k hkk => by have := HKK.out k hkk; omega) hk) (fun _ => rfl)
    (Pdue L W.heap.size w0.heap.size W) (fun _ _ _ => False) ?hI ?hIx ?h0 ?hround ?hdone ?hstop
  case hI => exact fun pre A B r h _ k => h.keep k (fun y hy => by
    rcases List.mem_cons.1 hy with rfl | hy
    · omega
    · have := HLL.out y hy; exact ⟨.inl hy, by omega, by omega⟩)
  case hIx => exact fun c pre A B r h _ k => h
  case h0 => exact fun V k => ⟨.slice none 0 0, hb2.keep k (by simp), World.ownsRow_nil .., (hch.trans k).mono (by simp)⟩
  case hround =>
    rintro pre ⟨xa, xt⟩ V r hPI hR hD hl
    gi_wp2
    have hlt : w0.heap.size + 1 < V.heap.size := (Array.getElem?_eq_some_iff.1 hl).1
    obtain ⟨r', hr'⟩ : ∃ r', ({ r with state := .busy } : Loop) = r' := ⟨_, rfl⟩
    rw [hr']
    obtain ⟨V1, hV1⟩ : ∃ V1, ((V.alloc (.cells #[.int .i64 xa, .int .i64 xt] 35))).putObj (w0.heap.size + 1) (.loop r') = V1 := ⟨_, rfl⟩
    rw [hV1]
    have hlA : ((V.alloc (.cells #[.int .i64 xa, .int .i64 xt] 35))).heap[w0.heap.size + 1]? = some (.loop r) := ((Chg.refl [] V).alloc _).heap hl (by simp)
    refine ⟨hlA, ?_⟩
    have hcV : Chg [w0.heap.size + 1] V V1 := by rw [← hV1]; exact ((Chg.refl [w0.heap.size + 1] V).alloc _).putObj hlA (.inl (by simp)) _
    have hPI1 := hPI.keep hcV (by simp; omega)
    have hl1 : V1.heap[w0.heap.size + 1]? = some (.loop r') := by rw [← hV1]; exact World.putObj_heap_same (by simp; omega)
    have hD1 : V1.heap[w0.heap.size]? = some (.deferred (some [])) := hcV.heap hD (by simp)
    have hact : Blk V1 V.heap.size #[.int .i64 xa, .int .i64 xt] 35 := by
      rw [← hV1]
      exact (World.putObj_heap_other (by omega)).trans (Blk.new V _ _)
    have k0 : V1.cell? ⟨V.heap.size, 0, none⟩ = some (.int .i64 xa) := hact.cell rfl
    have k1 : V1.cell? ⟨V.heap.size, 1, none⟩ = some (.int .i64 xt) := hact.cell rfl
    have HKP : Hid (∀ M V2, Chg M V1 V2 → (∀ y ∈ M, W.heap.size ≤ y) → KpH K0 V V2) := Lib.hid (fun M V2 hk hM => ⟨Nat.le_trans hcV.size hk.size, fun x hx => by
      have h8 := HKK.out x hx
      have h9 : x < V.heap.size := by omega
      rw [hk.block x (Nat.lt_of_lt_of_le h9 hcV.size) (fun hm => by have := hM x hm; omega), hcV.block x h9 (by simp; omega)]⟩)
    clear hPI hl hD hV1 hr' hlA
    obtain ⟨v, h5, hown, hcw⟩ := hPI1
    obtain ⟨a', c', rfl⟩ := own_open hown
    have HLN : Hid (pre.length < 4096) := Lib.hid (HRR.out _ _ _ hR)
    have c5 : V1.cell? ⟨W.heap.size, 0, none⟩ = some (.slice a' pre.length c') := h5.cell rfl
    have f5 := h5.free 0
    have HOWN := Lib.hid hown
    have HCW := Lib.hid hcw
    have HD := Lib.hid (⟨hD1, hl1⟩ : _ ∧ _)
    have HSZ := Lib.hid (⟨hsz, hlt⟩ : _ ∧ _)
    have H5 := Lib.hid h5
    have HCV := Lib.hid hcV
    obtain ⟨i0, hi, hz0, hz1, hz2⟩ := info_parts infoDue
    have hb1 : pre.length + 1 ≤ maxLen := by have := HLN.out; unfold maxLen; omega
    have hb2 : (pre.length + 1) * 16 ≤ 140737488355328 := by have := HLN.out; omega
    have HOA : (V1.alloc (.cells #[.int .i64 xa, .int .i64 xt] 35)).ownsRow (w0.heap.size + 2) 35 2 (.slice a' pre.length c') pre.length (pre.flatMap Du.cells) := own_keep HOWN.out ((Chg.refl [] _).alloc _) (by simp)
    have hcc := two_cells V1 (.int .i64 xa) (.int .i64 xt) 35
    have hb3 : w0.heap.size + 2 ≤ (V1.alloc (.cells #[.int .i64 xa, .int .i64 xt] 35)).heap.size := by rw [World.size_alloc]; have := HSZ.out; have := HCV.out.size; omega
    have HOL := Lib.hid (fun y hy => (World.ownsRow.lt HOWN.out y hy).1)
    clear hR hown hcw hD1 hl1 hlt hsz h5 hcV hch hact
    gi_wp2_with (gi_at_builtin; refine wpListIn_append_own_at _ rfl (.tmp 8) (.tmp 10) 23 rfl (w0.heap.size + 2) 35 i0 (.agg #[.int .i64 0, .int .i64 0]) 2 16 Tryd.underlying23 hi hz0 hz1 hz2 rfl (by decide) (.slice a' pre.length c') pre.length (pre.flatMap Du.cells) rfl HOA ⟨V1.heap.size, 0, none⟩ 1 1 [.int .i64 xa, .int .i64 xt] rfl rfl hcc (by simp [Value.oneCell']) hb1 hb2 hb3 ?_; intro v' w' hown' hgrow hnil hblk; obtain ⟨g', cap', rfl⟩ := ownsRow_succdue hown'; have hka := ((Chg.refl (Value.slice a' pre.length c').ownBlock.toList V1).alloc _).grown hgrow (fun k hk => .inl (Option.mem_toList.2 hk)); have HKA := Lib.hid hka; have HON := Lib.hid hown'; have hnb : ∀ q, q < w0.heap.size + 2 → q ∉ (Value.slice a' pre.length c').ownBlock.toList := fun q hq hm => (by have := HOL.out q (Option.mem_toList.1 hm); omega); have HNB := Lib.hid hnb; have h5b := H5.out.keep hka (hnb _ (by have := HSZ.out; omega)); have H5B := Lib.hid h5b; have c5b : w'.cell? ⟨W.heap.size, 0, none⟩ = some (.slice a' pre.length c') := h5b.cell rfl; have f5b := h5b.free 0; clear hka hown' hgrow hnil hblk hnb h5b)
    have hz := HSZ.out
    have HKB : Hid (Chg (W.heap.size :: (Value.slice a' pre.length c').ownBlock.toList) V1 (w'.setCell ⟨W.heap.size, 0, none⟩ (.slice (some ⟨g', 0, none⟩) (pre.length + 1) cap'))) :=
      Lib.hid ((HKA.out.mono (fun y hy => List.mem_cons_of_mem _ hy)).setCell (.inl (by simp)) _)
    have hmem : ∀ y ∈ (W.heap.size :: (Value.slice a' pre.length c').ownBlock.toList), y = W.heap.size ∨ w0.heap.size + 2 ≤ y := fun y hy => by
      rcases List.mem_cons.1 hy with rfl | hy
      · exact .inl rfl
      · exact .inr (HOL.out y (Option.mem_toList.1 hy))
    refine ⟨⟨HKB.out.heap HD.out.1 (fun hm => by have := hmem _ hm; omega), HKB.out.heap HD.out.2 (fun hm => by have := hmem _ hm; omega)⟩, HKP.out _ _ HKB.out (fun y hy => by have := hmem y hy; omega), .slice (some ⟨g', 0, none⟩) (pre.length + 1) cap', H5B.out.set 0 _, ?_, HCW.out.into HKB.out (fun y hy => .inr (by have := hmem y hy; omega))⟩
    have h9 := own_keep HON.out ((Chg.refl [W.heap.size] w').setCell (p := ⟨W.heap.size, 0, none⟩) (.inl (by simp)) (.slice (some ⟨g', 0, none⟩) (pre.length + 1) cap')) (fun y hy hm => by
      have h8 := (World.ownsRow.lt HON.out y hy).1
      have := List.mem_singleton.1 hm; omega)
    exact OwnD.snoc h9
  case hdone =>
    rintro xs V hS ⟨v, h5, hown, hcw⟩ hK
    obtain ⟨a', c', rfl⟩ := own_open hown
    have HOWN := Lib.hid hown
    have HCW := Lib.hid hcw
    have HK := Lib.hid hK
    have HSZ := Lib.hid hsz
    have HS := Lib.hid hS
    have c5 : V.cell? ⟨W.heap.size, 0, none⟩ = some (.slice a' xs.length c') := h5.cell rfl
    clear hown hcw hK hch hb2 hsz h5 hS
    gi_wp2
    refine ⟨by simp, .inl ⟨_, _, rfl, run_takeDeferred HK.out, ?_⟩⟩
    have hk : Chg [w0.heap.size] V (V.putObj w0.heap.size (.deferred none)) := (Chg.refl _ V).putObj HK.out (.inl (by simp)) _
    have hz := HSZ.out
    refine ⟨_, results_tmp rfl _ _ _, ?_⟩
    exact ⟨xs, _, rfl, HSS.out xs _ _ HS.out (fun k hk => World.putObj_heap_other (by omega)) (by simp [World.putObj]), own_mono (own_keep HOWN.out hk (fun y hy hm => by have h8 := (World.ownsRow.lt HOWN.out y hy).1; have := List.mem_singleton.1 hm; omega)) (by omega), HCW.out.into hk (by simp; omega)⟩
  case hstop => exact fun c pre V hSp h hK => h.elim
theorem Collect_due (gf : Nat) (lb : Array Value) (hen : ∀ args w, (callFunc gf args).run Tryd.prog w = .ok (.enter gf args) w) (L K0 : List Nat) (S : List Du → World → Prop) (Sp : List Du → Prop) (R : List Du → Du → World → Prop) (W : World)
    (hseq : ∀ w0, Chg [] W w0 → IterOK2 Fence.wide 4 Tryd.prog gf lb (fun x : Du => #[x.val]) L (KpH K0) S Sp R w0) (hL : ∀ b ∈ L, b < W.heap.size) (hK : ∀ b ∈ K0, b < W.heap.size)
    (hS : ∀ xs A B, S xs A → (∀ k, k < W.heap.size → B.heap[k]? = A.heap[k]?) → A.heap.size ≤ B.heap.size → S xs B) (hR : ∀ pre x V, R pre x V → pre.length < 4096) :
    Calls Tryd.prog 41 #[.func (.func gf) #[] lb] W fun e W' => ∃ xs v, e = .returned v ∧ S xs W' ∧ OwnD W' W.heap.size v xs ∧ Chg L W W' := by
  have HAP := Lib.hid (AppendSeq_due gf lb hen L K0 S Sp R W hseq hL hK hS hR)
  clear hseq hL hK hS hR hen
  go_enter Tryd.func41, Tryd.ntmps41
  go_wp2_with (go_at_call 51; refine HAP.out.mono ?_; rintro e w1 ⟨xs, v, rfl, hs, ho, hc⟩)
  go_ret
  exact ⟨xs, _, rfl, hs, ho, hc⟩
end Go.Proofs.YtfkokbeloenfdaaDoor.krn
