/- Images: rows of tasks, of objects, that are appended to; the plain end of Decode. -/
import Derived.Test.YtkmalnojkjmjiaaImgF
import Derived.Test.YtkmalnojkjmjiaaImgH
namespace Go.Proofs.Ytkmalnojkjmjiaa.img
open Go Go.RowKit Go.Proofs.Ytkmalnojkjmjiaa.kit Go.Proofs.Ytkmalnojkjmjiaa.obj Go.Proofs.Ytkmalnojkjmjiaa.mem Go.Proofs.Ytkmalnojkjmjiaa.lay Go.Proofs.Ytkmalnojkjmjiaa.codec Go.Proofs.Ytkmalnojkjmjiaa.blk
set_option linter.unusedVariables false
set_option linter.unusedSimpArgs false
set_option maxRecDepth 20000
/-- append of a struct that was just laid: what comes, and where it lies -/
theorem wp_append_row {P : Program} {w : World} {o : Oper} {ac : Act} {K : Act → World → Prop} {Q : Exit → Act → World → Prop} (s x : Operand) (t : TypeId)
    (ho : o.op = .call { callee := .builtin .append, args := #[s, x], argTypes := #[t, t] })
    (base : Nat) (e : TypeId) (i : TypeInfo) (z : Value) (size bytes : Nat) (ht : P.underlying t = some (.slice e)) (hi : P.info? e = some i) (hz : i.zero = some z)
    (hsize : i.size = size) (hby : i.bytes = bytes) (hzs : z.cells.size = size) (hsz : 0 < size)
    (v : Value) (n : Nat) (xs : List Value) (hs : ac.eval s = v) (hown : w.ownsRow base e size v n xs)
    (b : Nat) (us : List Value) (hx : ac.eval x = .slice (some ⟨b, 0, none⟩) 1 1) (hl : us.length = 1 * size) (hb : ∀ (j : Nat) u, us[j]? = some u → w.cell? ⟨b, j, none⟩ = some u) (h1 : ∀ u ∈ us, u.oneCell' = true)
    (h63 : n + 1 ≤ maxLen) (hbytes : (n + 1) * bytes ≤ 140737488355328) (hbase : base ≤ w.heap.size)
    (h : ∀ v' w', w'.ownsRow base e size v' (n + 1) (xs ++ us) → w.grownBy w' v.ownBlock → (∀ y, v'.ownBlock = some y → v.ownBlock = some y ∨ y = w.heap.size) → K (ac.put o.dst v') w') : o.wp P ac w K Q := by
  have hc : ∀ (j : Nat) y, us[j]? = some y → w.cell? ((⟨b, 0, none⟩ : Addr).add j) = some y := by
    intro j y hy
    rw [add_plain, Nat.zero_add]
    exact hb j y hy
  obtain ⟨v', w', hr, h2, h3, _⟩ := run_append_own (P := P) w base t o.type e i z size bytes ht hi hz hsize hby hzs hsz v n xs hown ⟨b, 0, none⟩ 1 1 us hl hc h1 h63 hbytes hbase
  have h4 := append_blk (P := P) w base t o.type e i z size bytes ht hi hz hsize hby hzs hsz v n xs hown ⟨b, 0, none⟩ 1 1 us hl (by decide) hc h1 h63 hbytes v' w' hr
  unfold Oper.wp execOp
  simp only [ho, resolve, invoke, builtin, Sem.run_bind, Sem.run_pure, Result.andThen_ok, List.map_toArray, List.map_cons, List.map_nil, hs, hx, hr]
  exact h v' w' h2 h3 h4
theorem szSystem : (Try.prog.info? 27).map (·.size) = some 2 := by kernel_rfl
theorem infoTask : (Try.prog.info? 41).map (fun i => (i.zero, i.size, i.bytes)) = some (some (.agg #[.int .i64 0, .int .i64 0, .int .i64 0, .int .i64 0, .int .i64 0, .int .i64 0, .slice none 0 0]), 7, 72) := by kernel_rfl
theorem infoObj : (Try.prog.info? 53).map (fun i => (i.zero, i.size, i.bytes)) = some (some (.agg #[.int .i64 0, .int .i64 0, .int .i64 0, .int .i64 0, .int .u32 0, .slice none 0 0, .int .i64 0, .slice none 0 0]), 8, 96) := by kernel_rfl
def OwnTs (w : World) (B : Nat) (v : Value) (ds : List DT) : Prop := w.ownsRow B 41 7 v ds.length (ds.flatMap (fun d => d.t.cells))
def OwnOs (w : World) (B : Nat) (v : Value) (ds : List DO) : Prop := w.ownsRow B 53 8 v ds.length (ds.flatMap (fun d => d.o.cells))
def SubT (w : World) (B : Nat) (d : DT) : Prop := OwnC w B (.slice d.t.ca d.t.cl d.t.cc) d.code ∧ (∀ i ∈ d.code, fit4 i.n) ∧ d.code.length ≤ 255 ∧ 0 ≤ d.t.own ∧ d.t.own ≤ 255
def NbT (d : DT) : List Nat := (Value.slice d.t.ca d.t.cl d.t.cc).ownBlock.toList
def SubO (w : World) (B : Nat) (d : DO) : Prop := (OwnW w B (.slice d.o.ia d.o.il d.o.ic) d.ini ∧ OwnN w B (.slice d.o.ra d.o.rl d.o.rc) d.rds) ∧ fit4 d.o.st ∧ (∀ x ∈ d.ini, fit4 x) ∧ d.ini.length ≤ 255 ∧ d.rds.length ≤ 255
def NbO (d : DO) : List Nat := (Value.slice d.o.ia d.o.il d.o.ic).ownBlock.toList ++ (Value.slice d.o.ra d.o.rl d.o.rc).ownBlock.toList
theorem SubT.keep {w w' : World} {B : Nat} {d : DT} {L : List Nat} (h : SubT w B d) (k : Chg L w w') (hn : ∀ y ∈ NbT d, y ∉ L) : SubT w' B d := ⟨mem.own_chg h.1 k (fun y hy => hn y (by unfold NbT; exact Option.mem_toList.2 hy)), h.2⟩
theorem SubO.keep {w w' : World} {B : Nat} {d : DO} {L : List Nat} (h : SubO w B d) (k : Chg L w w') (hn : ∀ y ∈ NbO d, y ∉ L) : SubO w' B d :=
  ⟨⟨mem.own_chg h.1.1 k (fun y hy => hn y (by unfold NbO; exact List.mem_append_left _ (Option.mem_toList.2 hy))), mem.own_chg h.1.2 k (fun y hy => hn y (by unfold NbO; exact List.mem_append_right _ (Option.mem_toList.2 hy)))⟩, h.2⟩
theorem SubT.lt {w : World} {B : Nat} {d : DT} (h : SubT w B d) : ∀ y ∈ NbT d, B ≤ y ∧ y < w.heap.size := fun y hy => World.ownsRow.lt h.1 y (Option.mem_toList.1 hy)
theorem SubO.lt {w : World} {B : Nat} {d : DO} (h : SubO w B d) : ∀ y ∈ NbO d, B ≤ y ∧ y < w.heap.size := fun y hy => by
  rcases List.mem_append.1 hy with hy | hy
  · exact World.ownsRow.lt h.1.1 y (Option.mem_toList.1 hy)
  · exact World.ownsRow.lt h.1.2 y (Option.mem_toList.1 hy)
theorem SubT.mono {w : World} {B B' : Nat} {d : DT} (h : SubT w B d) (hb : B' ≤ B) : SubT w B' d := ⟨mem.own_base h.1 hb, h.2⟩
theorem SubO.mono {w : World} {B B' : Nat} {d : DO} (h : SubO w B d) (hb : B' ≤ B) : SubO w B' d := ⟨⟨mem.own_base h.1.1 hb, mem.own_base h.1.2 hb⟩, h.2⟩
theorem OwnTs.add {w : World} {B : Nat} {v : Value} {l : List DT} {d : DT} (h : w.ownsRow B 41 7 v (l.length + 1) (l.flatMap (fun d => d.t.cells) ++ d.t.cells)) : OwnTs w B v (l ++ [d]) := by
  unfold OwnTs
  rw [List.length_append, List.flatMap_append]
  simpa using h
theorem OwnOs.add {w : World} {B : Nat} {v : Value} {l : List DO} {d : DO} (h : w.ownsRow B 53 8 v (l.length + 1) (l.flatMap (fun d => d.o.cells) ++ d.o.cells)) : OwnOs w B v (l ++ [d]) := by
  unfold OwnOs
  rw [List.length_append, List.flatMap_append]
  simpa using h
theorem OwnTs.reads {w : World} {B B' : Nat} {a : Option Addr} {c : Nat} {ds : List DT} (h : OwnTs w B (.slice a ds.length c) ds) (hs : ∀ d ∈ ds, SubT w B' d) : ReadsDT w (.slice a ds.length c) ds := by
  refine ⟨⟨?_, fun t ht => ?_⟩, fun d hd => ?_⟩
  · rw [rowsT_map, List.length_map]; exact Reads.of_own h (by decide)
  · obtain ⟨d, hd, rfl⟩ := List.mem_map.1 ht
    have := (hs d hd).2.2.2
    unfold i64B; omega
  · exact ⟨Reads.of_own (hs d hd).1 (by decide), (hs d hd).2.1⟩
theorem OwnOs.reads {w : World} {B B' : Nat} {a : Option Addr} {c : Nat} {ds : List DO} (h : OwnOs w B (.slice a ds.length c) ds) (hs : ∀ d ∈ ds, SubO w B' d) : ReadsDO w (.slice a ds.length c) ds := by
  refine ⟨?_, fun d hd => ?_⟩
  · unfold ReadsO; rw [rowsO_map, List.length_map]; exact Reads.of_own h (by decide)
  · have h1 := hs d hd
    exact ⟨⟨h1.2.1, OwnW.reads h1.1.1 (wfW h1.2.2.1)⟩, Reads.of_own h1.1.2 (by decide)⟩
theorem all_step {R : Type} {f : St → R} {g : St → St} {n m : Nat} {ss sx : St} {row : List R} {x : R} (h : row.length = m ∧ allV f g n ss = row ++ allV f g (n - m) sx ∧ allS g n ss = allS g (n - m) sx) (hx : f sx = x) (hlt : m < n) :
    (row ++ [x]).length = m + 1 ∧ allV f g n ss = (row ++ [x]) ++ allV f g (n - (m + 1)) (g sx) ∧ allS g n ss = allS g (n - (m + 1)) (g sx) := by
  obtain ⟨h1, h3, h4⟩ := h
  subst hx
  have e : n - m = (n - (m + 1)) + 1 := by omega
  rw [e] at h3 h4
  exact ⟨by simp [h1], by rw [h3, allV, List.append_assoc]; rfl, by rw [h4, allS]⟩
section
variable {zs : List Int}
theorem one_at {s : St} (hb : s.bad = false) (h : s.at_ < zs.length) : rdV zs 1 s = zs.getD s.at_ 0 ∧ rdS zs 1 s = ⟨s.at_ + 1, false⟩ := by
  unfold rdV rdS
  rw [if_neg (by rw [hb]; simp; omega), hb, if_neg (by decide), if_neg (by omega)]
  refine ⟨?_, rfl⟩
  have h1 : (zs.drop s.at_).take 1 = [zs.getD s.at_ 0] := by
    rw [List.drop_eq_getElem_cons h, List.take_succ_cons, List.take_zero, List.getD_eq_getElem?_getD, List.getElem?_eq_getElem h]
    rfl
  rw [h1]
  simp [numL]
/-- the first three bytes, one by one -/
theorem head3 (h : 3 ≤ zs.length) : (rdV zs 1 ⟨0, false⟩ = zs.getD 0 0 ∧ rdV zs 1 (rdS zs 1 ⟨0, false⟩) = zs.getD 1 0 ∧ rdV zs 1 (rdS zs 1 (rdS zs 1 ⟨0, false⟩)) = zs.getD 2 0) ∧ rdS zs 1 (rdS zs 1 (rdS zs 1 ⟨0, false⟩)) = rdS zs 3 ⟨0, false⟩ ∧ (rdS zs 3 ⟨0, false⟩).bad = false := by
  obtain ⟨v0, e0⟩ := one_at (zs := zs) (s := ⟨0, false⟩) rfl (by show 0 < _; omega)
  obtain ⟨v1, e1⟩ := one_at (zs := zs) (s := ⟨1, false⟩) rfl (by show 1 < _; omega)
  obtain ⟨v2, e2⟩ := one_at (zs := zs) (s := ⟨2, false⟩) rfl (by show 2 < _; omega)
  have e3 : rdS zs 3 ⟨0, false⟩ = ⟨3, false⟩ := by unfold rdS; rw [if_neg (by decide), if_neg (by show ¬ zs.length < 0 + 3; omega)]
  dsimp only at v0 e0 v1 e1 v2 e2
  rw [e0]
  show (_ ∧ rdV zs 1 ⟨1, false⟩ = _ ∧ rdV zs 1 (rdS zs 1 ⟨1, false⟩) = _) ∧ rdS zs 1 (rdS zs 1 ⟨1, false⟩) = _ ∧ _
  rw [e1]
  show (_ ∧ _ ∧ rdV zs 1 ⟨2, false⟩ = _) ∧ rdS zs 1 ⟨2, false⟩ = _ ∧ _
  rw [e2, e3]
  exact ⟨⟨v0, v1, v2⟩, rfl, rfl⟩
theorem head_short (h : zs.length < 3) : (rdS zs 1 (rdS zs 1 (rdS zs 1 ⟨0, false⟩))).bad = true ∧ (rdS zs 3 ⟨0, false⟩).bad = true := by
  refine ⟨?_, by unfold rdS; rw [if_neg (by decide), if_pos (by show zs.length < 0 + 3; omega)]⟩
  match zs, h with
  | [], _ => rfl
  | [a], _ => rfl
  | [a, b], _ => rfl
theorem bad_row {g : St → St} (hg : ∀ s, s.bad = true → g s = s) {n : Nat} {s : St} (h : s.bad = true) : (rowS g n s).bad = true := by rw [row_bad h]; exact h
/-- the program's end is the document's: p is where it stands behind the third byte -/
theorem end_state {p : St} (hp : p = rdS zs 1 (rdS zs 1 (rdS zs 1 ⟨0, false⟩))) {n k : Nat} (hn : (n : Int) = rdV zs 1 p) (hk : (k : Int) = rdV zs 1 (rdS zs 1 p)) :
    (3 ≤ zs.length → allS (obAS zs) k (allS (tkS zs) n (rdS zs 1 (rdS zs 1 p))) = s7 zs ∧ ((s7 zs).bad = false → allV (tkV zs) (tkS zs) n (rdS zs 1 (rdS zs 1 p)) = decT zs ∧ allV (obA zs) (obAS zs) k (allS (tkS zs) n (rdS zs 1 (rdS zs 1 p))) = decO zs)) ∧
    (zs.length < 3 → (allS (obAS zs) k (allS (tkS zs) n (rdS zs 1 (rdS zs 1 p)))).bad = true ∧ (s7 zs).bad = true) := by
  have ht : ∀ s, s.bad = true → tkS zs s = s := fun s h => tk_bad h
  have ho : ∀ s, s.bad = true → obS zs s = s := fun s h => ob_bad h
  have hoo : (obAS zs) = (obS zs) := funext fun s => obAS_eq s
  rw [hoo]
  refine ⟨fun h3 => ?_, fun h3 => ?_⟩
  · obtain ⟨-, e, -⟩ := head3 h3
    rw [e] at hp
    subst hp
    have en : nT zs = n := by unfold nT; rw [← hn]; omega
    have ek : nO zs = k := by unfold nO; rw [← hk]; omega
    have e5 : rdS zs 1 (rdS zs 1 (rdS zs 3 ⟨0, false⟩)) = s5 zs := rfl
    rw [e5, allS_row ht, allS_row ho]
    have e6 : rowS (tkS zs) n (s5 zs) = s6 zs := by unfold s6; rw [en]
    have e7 : rowS (obS zs) k (s6 zs) = s7 zs := by unfold s7; rw [ek]
    rw [e6, e7]
    refine ⟨rfl, fun hb => ?_⟩
    have hb6 : (s6 zs).bad = false := by
      cases h6 : (s6 zs).bad
      · rfl
      · have := bad_row ho (n := nO zs) h6
        unfold s7 at hb
        rw [this] at hb; cases hb
    refine ⟨?_, ?_⟩
    · rw [allV_row ht _ _ (by rw [e6]; exact hb6)]
      unfold decT; rw [en]
    · rw [allV_eq (f := obV zs) ho (fun s h => obA_eq h) _ _ (by rw [e7]; exact hb)]
      unfold decO; rw [ek]
  · obtain ⟨e, e3⟩ := head_short h3
    rw [← hp] at e
    have h1 : (rdS zs 1 (rdS zs 1 p)).bad = true := by rw [rd_bad e, rd_bad e]; exact e
    refine ⟨by rw [allS_row ht, allS_row ho]; exact bad_row ho (bad_row ht h1), ?_⟩
    unfold s7 s6 s5
    exact bad_row ho (bad_row ht (by rw [rd_bad (zs := zs) (n := 1) e3, rd_bad e3]; exact e3))
theorem st_le {g : St → St} {s : St} : True := trivial
end
end Go.Proofs.Ytkmalnojkjmjiaa.img
