import Derived.Test.YtphfnjcboellhaaGreatDoorCore
import Derived.Test.YtphfnjcboellhaaGreatDoorPlans
import Derived.Deep.MidRow
namespace Go.Proofs.YtphfnjcboellhaaGreatDoor.kit
open Go Go.RowKit
section
variable {P : Program} {ops : Array Oper} {Q : Exit -> Act -> World -> Prop} {S : World -> Prop}
theorem exec_load {o : Oper} {a : Act} {ty : TypeId} {x : Operand} {p v : Value} {w : World} (ho : o.op = .load ty x) (hx : a.eval x = p) (h : (Instr.loadAt ty p).run P w = .ok v w) : (execOp a.eval o).run P w = .ok (.value v) w := by
 unfold execOp
 simp only [ho, hx, Sem.run_bind, Sem.run_pure, h, Result.andThen_ok]
theorem planWp_load {i : Nat} {d : Option Nat} {r : List (Nat × Bool × Option Nat)} {a : Act} {w : World} {o : Oper} {v : Value} (hi : ops[i]? = some o) (hd : o.dst = d) (hw : Region.wanted o (yielded ops a.tmps) = true)
 (ty : TypeId) (x : Operand) (ho : o.op = .load ty x) (p : Value) (hx : a.eval x = p) (hS : ∀ w, S w -> (Instr.loadAt ty p).run P w = .ok v w) (h : planWp P ops Q S r (a.put d v) w) : planWp P ops Q S ((i, true, d) :: r) a w :=
 planWp_read hi hd hw (fun w hs => exec_load ho hx (hS w hs)) h
theorem planT_load {L i : Nat} {d : Option Nat} {r : List (Nat × Bool × Option Nat)} {a : Act} {w : World} {o : Oper} {v : Value} (hi : ops[i]? = some o) (hd : o.dst = d) (hw : Region.wanted o (yielded ops a.tmps) = true)
 (ty : TypeId) (x : Operand) (ho : o.op = .load ty x) (p : Value) (hx : a.eval x = p) (hS : ∀ w, S w -> (Instr.loadAt ty p).run P w = .ok v w) (h : planWpT P ops Q S L r (a.put d v) w) : planWpT P ops Q S L ((i, true, d) :: r) a w :=
 planT_read hi hd hw (fun w hs => exec_load ho hx (hS w hs)) h
end
end Go.Proofs.YtphfnjcboellhaaGreatDoor.kit
namespace Go.Proofs.YtphfnjcboellhaaGreatDoor.core
open Go Go.RowKit kit mem rop
set_option maxRecDepth 20000
theorem objSize : (Tryz.prog.info? 26).map (·.size) = some 8 := by kernel_rfl
theorem St.loadO {T : TypeId} {bx mb : Nat} {sv r0 : Value} {W0 W : World} {x : Core} {rec ws : List Int} {n : Int} (h : St T bx mb sv W0 r0 W x rec ws n) {L : List Nat} {V : World} (hc : Chg L W V) (hb : bx ∉ L) :
 (Instr.loadAt 26 (.pointer (some ⟨bx, 0, none⟩))).run Tryz.prog V = .ok (.agg #[.int .i64 x.k, .int .i64 x.w, .int .i64 x.s, .int .i64 x.c, .int .u32 x.st, .slice x.ia x.il x.ic, .int .i64 x.wr, .slice x.ra x.rl x.rc]) V := by
 have hcell : ∀ j u, ([.int .i64 x.k, .int .i64 x.w, .int .i64 x.s, .int .i64 x.c, .int .u32 x.st, .slice x.ia x.il x.ic, .int .i64 x.wr, .slice x.ra x.rl x.rc] : List Value)[j]? = some u -> W.cell? ⟨bx, j, none⟩ = some u := by
  obtain ⟨v, hp, he⟩ := h
  intro j u hj
  refine hp.box.cell ?_
  rcases j with _ | _ | _ | _ | _ | _ | _ | _ | j
  all_goals first | exact hj | (simp at hj)
 exact run_loadAt_mid V bx 0 26 [.int .i64 x.k, .int .i64 x.w, .int .i64 x.s, .int .i64 x.c, .int .u32 x.st, .slice x.ia x.il x.ic, .int .i64 x.wr, .slice x.ra x.rl x.rc] _ (fun j u hj => by rw [Nat.zero_add]; exact hc.keep (hcell j u hj) hb) Tryz.underlying26 rfl objSize
theorem u32_bd {W : World} {b : Nat} {sv : Value} {ws : List Int} {n : Int} {i : Nat} (h : MemAt W b sv ws n) (hi : i < ws.length) : 0 <= ws.getD i 0 /\ ws.getD i 0 <= 4294967295 := by
 have hget : ws.getD i 0 = ws[i] := by simp [List.getD, hi]
 rw [hget]
 exact wf_u32 (h.wf _ (List.getElem_mem hi))
theorem tmod_nn {a b : Int} (h : 0 <= a) : Int.tmod a b = a % b := Int.tmod_eq_emod_of_nonneg h
end Go.Proofs.YtphfnjcboellhaaGreatDoor.core
