/- The kernel: Step, End. -/
import Derived.Test.YtfkokbeloenfdaaDoorKrnM
namespace Go.Proofs.YtfkokbeloenfdaaDoor.krn
open Go Go.RowKit Go.Proofs.YtfkokbeloenfdaaDoor.kit Go.Shelf
set_option linter.unusedVariables false
set_option linter.unusedSimpArgs false
set_option maxRecDepth 20000
section
variable {P : Program} (w : World) {ops : Array Oper} {rest : List Oper} {o : Oper} {a : Act} {Q : Exit → Act → World → Prop}
theorem wpList_del (hg : o.guard = none) (m x : Operand) (hop : o.op = Op.call { callee := Callee.builtin Builtin.delete, args := #[m, x], argTypes := #[64, 3] }) (b n : Nat) (f : Int → Option Int)
    (hm : a.eval m = .map (some b)) (hown : MapI w b n f) (i : Int) (hx : a.eval x = .int .i64 i) (hi : I64 i)
    (hK : ∀ w', MapI w' b n (upd f i none) → Chg [b] w w' → wpList Tryd.prog ops Q rest (a.put o.dst (.tuple #[])) w') :
    wpList Tryd.prog ops Q (o :: rest) a w := by
  refine wpList_plain hg fun K' hK' => ?_
  obtain ⟨w', hrun, r1, r2⟩ := hown.del hi o.type
  unfold Oper.wp
  simp [execOp, hop, resolve, invoke, builtin, hm, hx, hrun, Result.andThen]
  exact hK' _ _ (hK w' r1 r2)
theorem wpList_put (hg : o.guard = none) (m x v : Operand) (hop : o.op = Op.mapUpdate 64 m x v) (b n : Nat) (f : Int → Option Int)
    (hm : a.eval m = .map (some b)) (hown : MapI w b n f) (hn : n < 100000) (i : Int) (hx : a.eval x = .int .i64 i) (hi : I64 i) (z : Int) (hv : a.eval v = .int .i64 z) (hz : I64 z)
    (hK : ∀ w', MapI w' b (n + 1) (upd f i (some z)) → Chg [b] w w' → wpList Tryd.prog ops Q rest (a.put o.dst undef) w') :
    wpList Tryd.prog ops Q (o :: rest) a w := by
  refine wpList_plain hg fun K' hK' => ?_
  obtain ⟨w', hrun, r1, r2⟩ := hown.put hn hi hz
  unfold Oper.wp
  simp [execOp, hop, hm, hx, hv, hrun, Result.andThen]
  exact hK' _ _ (hK w' r1 r2)
theorem wpList_look (hg : o.guard = none) (m x : Operand) (hop : o.op = Op.lookup 64 m x false) (b n : Nat) (f : Int → Option Int)
    (hm : a.eval m = .map (some b)) (hown : MapI w b n f) (i : Int) (hx : a.eval x = .int .i64 i) (hi : I64 i) (z : Int) (hz : (f i).getD 0 = z)
    (hK : wpList Tryd.prog ops Q rest (a.put o.dst (.int .i64 z)) w) :
    wpList Tryd.prog ops Q (o :: rest) a w := by
  refine wpList_plain hg fun K' hK' => ?_
  have hrun := hown.look hi
  rw [hz] at hrun
  unfold Oper.wp
  simp [execOp, hop, hm, hx, hrun, Result.andThen]
  exact hK' _ _ hK
theorem wpList_look_ok (hg : o.guard = none) (m x : Operand) (hop : o.op = Op.lookup 64 m x true) (b n : Nat) (f : Int → Option Int)
    (hm : a.eval m = .map (some b)) (hown : MapI w b n f) (i : Int) (hx : a.eval x = .int .i64 i) (hi : I64 i) (z : Int) (hz : (f i).getD 0 = z) (y : Bool) (hy : (f i).isSome = y)
    (hK : wpList Tryd.prog ops Q rest (a.put o.dst (.tuple #[.int .i64 z, .bool y])) w) :
    wpList Tryd.prog ops Q (o :: rest) a w := by
  refine wpList_plain hg fun K' hK' => ?_
  have hrun := hown.look_ok hi
  rw [hz, hy] at hrun
  unfold Oper.wp
  simp [execOp, hop, hm, hx, hrun, Result.andThen]
  exact hK' _ _ hK
end
theorem own_type2 {w : World} {B s n : Nat} {T : TypeId} {v : Value} {xs : List Value} (h : w.ownsRow B T s v n xs) {B' s' n' : Nat} {T' : TypeId} {v' : Value} {xs' : List Value} (h' : w.ownsRow B' T' s' v' n' xs') (hT : T ≠ T') : ∀ y, v.ownBlock = some y → v'.ownBlock ≠ some y := by
  intro y hy hy'
  rcases h'.2 with ⟨rfl, _⟩ | ⟨g, cap, cur, rfl, hB, hg, h4⟩
  · simp [Value.ownBlock] at hy'
  · simp [Value.ownBlock] at hy'
    exact own_type (cs := cur) h (show Blk w y cur T' by subst hy'; exact hg) hT y hy rfl
theorem LedAt.setAll {w w' : World} {B db n : Nat} {s : Led} {q : LedQ} (h : LedAt w B db n s q) (k : Chg (q.aa.map (·.block)).toList w w') (all' : List Jb) (hl : all'.length = s.all.length) (hr : w'.ownsRow B 60 8 (.slice q.aa all'.length q.ac) all'.length (all'.flatMap Jb.cells)) :
    LedAt w' B db n { s with all := all' } q := by
  have hm : ∀ y, y ∈ (q.aa.map (·.block)).toList → (Value.slice q.aa s.all.length q.ac).ownBlock = some y := fun y hy => by
    rw [own_slice]; exact Option.mem_toList.1 hy
  refine ⟨?_, own_keep h.rl k (fun y hy hm' => own_type2 h.rl h.ra (by decide) y hy (hm y hm')), hr, h.mn.keep k (fun hm' => h.mn.ne_row h.ra _ (hm _ hm') rfl), h.mc.keep k (fun hm' => h.mc.ne_row h.ra _ (hm _ hm') rfl), own_keep h.ro k (fun y hy hm' => own_type2 h.ro h.ra (by decide) y hy (hm y hm')), h.nc⟩
  show Blk w' db #[_, .slice q.aa all'.length q.ac, _, _, _, _] _
  rw [hl]
  exact h.box.keep k (fun hm' => own_type h.ra h.box (by decide) _ (hm _ hm') rfl)
theorem LedAt.putJob {w : World} {B db n : Nat} {s : Led} {q : LedQ} (h : LedAt w B db n s q) {g j f : Nat} {x y : Jb} (hq : q.aa = some ⟨g, 0, none⟩) (hj : s.all[j]? = some x) (hf : f < 8) (v : Value) (he : y.cells = x.cells.set f v) :
    LedAt (w.setCell ⟨g, j * 8 + f, none⟩ v) B db n { s with all := s.all.set j y } q := by
  refine h.setAll ((Chg.refl _ w).setCell (.inl (by simp [hq])) v) _ (List.length_set ..) ?_
  have hr := h.ra
  rw [hq] at hr ⊢
  exact row_put (enc := Jb.cells) (sz := 8) (fun _ => rfl) hr j f hf x y hj v he
theorem LedAt.setAct {w : World} {B db n : Nat} {s : Led} {q : LedQ} (h : LedAt w B db n s q) (m : Nat) : LedAt (w.setCell ⟨db, 4, none⟩ (.int .u64 (m : Int))) B db n { s with act := m } q := by
  have k : Chg [db] w (w.setCell ⟨db, 4, none⟩ (.int .u64 (m : Int))) := (Chg.refl _ w).setCell (.inl (by simp)) _
  refine ⟨h.box.set 4 _, own_keep h.rl k (fun y hy hm => own_type h.rl h.box (by decide) y hy (List.mem_singleton.1 hm)), own_keep h.ra k (fun y hy hm => own_type h.ra h.box (by decide) y hy (List.mem_singleton.1 hm)), h.mn.keep k (fun hm => h.mn.ne_blk h.box (List.mem_singleton.1 hm)), h.mc.keep k (fun hm => h.mc.ne_blk h.box (List.mem_singleton.1 hm)), own_keep h.ro k (fun y hy hm => own_type h.ro h.box (by decide) y hy (List.mem_singleton.1 hm)), h.nc⟩
theorem LedAt.setNow {w w' : World} {B db n : Nat} {s : Led} {q : LedQ} (h : LedAt w B db n s q) (k : Chg [q.nb] w w') {f : Int → Option Int} {n' : Nat} (hn : n ≤ n') (hm : MapI w' q.nb n' f) : LedAt w' B db n' { s with now := f } q := by
  have hs : ∀ {y}, y ∈ [q.nb] → y = q.nb := fun h => List.mem_singleton.1 h
  exact ⟨h.box.keep k (fun hm => h.mn.ne_blk h.box (hs hm).symm), own_keep h.rl k (fun y hy hm => h.mn.ne_row h.rl y hy (hs hm)), own_keep h.ra k (fun y hy hm => h.mn.ne_row h.ra y hy (hs hm)), hm, (h.mc.keep k (fun hm => h.nc (hs hm).symm)).mono hn, own_keep h.ro k (fun y hy hm => h.mn.ne_row h.ro y hy (hs hm)), h.nc⟩
theorem LedAt.setCounts {w w' : World} {B db n : Nat} {s : Led} {q : LedQ} (h : LedAt w B db n s q) (k : Chg [q.cb] w w') {f : Int → Option Int} {n' : Nat} (hn : n ≤ n') (hm : MapI w' q.cb n' f) : LedAt w' B db n' { s with counts := f } q := by
  have hs : ∀ {y}, y ∈ [q.cb] → y = q.cb := fun h => List.mem_singleton.1 h
  exact ⟨h.box.keep k (fun hm => h.mc.ne_blk h.box (hs hm).symm), own_keep h.rl k (fun y hy hm => h.mc.ne_row h.rl y hy (hs hm)), own_keep h.ra k (fun y hy hm => h.mc.ne_row h.ra y hy (hs hm)), (h.mn.keep k (fun hm => h.nc (hs hm))).mono hn, hm, own_keep h.ro k (fun y hy hm => h.mc.ne_row h.ro y hy (hs hm)), h.nc⟩
end Go.Proofs.YtfkokbeloenfdaaDoor.krn
