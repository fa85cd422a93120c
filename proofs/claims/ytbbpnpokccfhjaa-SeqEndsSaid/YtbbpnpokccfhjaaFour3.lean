/- Package four: a step, whatever it is. -/
import Derived.Test.YtbbpnpokccfhjaaFour2
namespace Go.Proofs.Ytbbpnpokccfhjaa.four
open Go Go.RowKit Go.Proofs.Ytbbpnpokccfhjaa.kit Go.Proofs.Ytbbpnpokccfhjaa.mem Go.Proofs.Ytbbpnpokccfhjaa.rop Go.Proofs.Ytbbpnpokccfhjaa.core
set_option linter.unusedVariables false
set_option maxRecDepth 20000

/-- a step of a write, in plain lists -/
def stepW (x : Core) (rec ws : List Int) : Core × List Int × List Int :=
  if x.phase = 0 then ({ x with a := (ws.getD (x.base.toNat + 1) 0 + 1) % 2, phase := 1, i := 0 }, rec, ws)
  else if x.phase = 1 then ({ x with b := (ws.getD (x.base.toNat + (2 + x.a.toNat)) 0 + 1) % 2, phase := 2, i := 0 }, rec, ws)
  else if x.phase = 2 then (if x.w.toNat ≤ x.i.toNat + 1 then { x with phase := 3, i := 0 } else { x with i := (x.i.toNat : Int) + 1 }, rec, ws.set (x.base.toNat + ((4 + (2 * x.a.toNat + x.b.toNat) * x.w.toNat) + x.i.toNat)) (rec.getD x.i.toNat 0))
  else if x.phase = 3 then ({ x with phase := 4, i := 0 }, rec, ws.set (x.base.toNat + (2 + x.a.toNat)) (x.b.toNat : Int))
  else ({ x with over := true, code := 0 }, endRec x.op 0 rec, ws.set x.base.toNat (x.a.toNat : Int))
/-- a step of a read, in plain lists -/
def stepR (x : Core) (rec ws : List Int) : Core × List Int × List Int :=
  if x.phase = 0 then ({ x with a := ws.getD (x.base.toNat + 0) 0 % 2, phase := 1, i := 0 }, rec, ws)
  else if x.phase = 1 then ({ x with phase := 2, i := 0 }, rec, ws.set (x.base.toNat + 1) (x.a.toNat : Int))
  else if x.phase = 2 then ({ x with b := ws.getD (x.base.toNat + (2 + x.a.toNat)) 0 % 2, phase := 3, i := 0 }, rec, ws)
  else (if x.w.toNat ≤ x.i.toNat + 1 then { x with i := (x.i.toNat : Int) + 1, over := true, code := 0 } else { x with i := (x.i.toNat : Int) + 1 },
    if x.w.toNat ≤ x.i.toNat + 1 then endRec x.op 0 (rec ++ [ws.getD (x.base.toNat + ((4 + (2 * x.a.toNat + x.b.toNat) * x.w.toNat) + x.i.toNat)) 0]) else rec ++ [ws.getD (x.base.toNat + ((4 + (2 * x.a.toNat + x.b.toNat) * x.w.toNat) + x.i.toNat)) 0], ws)
/-- a step, in plain lists -/
def step (x : Core) (mv : Value) (rec ws : List Int) : Core × List Int × List Int :=
  if x.op = 2 then stepW { x with m := mv, steps := x.steps + 1 } rec ws else stepR { x with m := mv, steps := x.steps + 1 } rec ws

/-- what an operation keeps -/
structure Shape (x : Core) (rec : List Int) : Prop where
  w : 1 ≤ x.w ∧ x.w ≤ 8
  a : x.a = 0 ∨ x.a = 1
  b : x.b = 0 ∨ x.b = 1
  base : 0 ≤ x.base
  size : x.size = 4 + 4 * x.w
  i : x.over = false → 0 ≤ x.i ∧ x.i < x.w
  op : (x.op = 2 ∧ (0 ≤ x.phase ∧ x.phase ≤ 4) ∧ (x.over = false → (rec.length : Int) = x.w)) ∨ (x.op = 1 ∧ (0 ≤ x.phase ∧ x.phase ≤ 3) ∧ (x.over = false → (rec.length : Int) = if x.phase = 3 then x.i else 0))

set_option maxHeartbeats 2000000 in
theorem write_any {T : TypeId} {bx mb : Nat} {sv r0 : Value} {W0 W : World} {x : Core} {rec ws : List Int} {n : Int} (hI : Shape x rec) (hov : x.over = false) (hop : x.op = 2) (hm : x.m = .pointer (some ⟨mb, 0, none⟩)) (hfit : x.base + x.size ≤ ws.length) (hn : 0 ≤ n ∧ n ≤ 1000000) (h : St T bx mb sv W0 r0 W x rec ws n) :
    Calls Try.prog 58 #[.pointer (some ⟨bx, 0, none⟩)] W fun e W' => e = .returned (.tuple #[]) ∧ St T bx mb sv W0 r0 W' (stepW x rec ws).1 (stepW x rec ws).2.1 (stepW x rec ws).2.2 (n + 1) := by
  have hw := hI.w; have ha := hI.a; have hb := hI.b; have hba := hI.base; have hsz := hI.size; have hi := hI.i hov
  have hph : (0 ≤ x.phase ∧ x.phase ≤ 4) ∧ (rec.length : Int) = x.w := by rcases hI.op with ⟨_, h1, h2⟩ | ⟨h1, _⟩; exact ⟨h1, h2 hov⟩; omega
  have eb : x.base = (x.base.toNat : Int) := by omega
  have ea : x.a = (x.a.toNat : Int) := by omega
  have ec : x.b = (x.b.toNat : Int) := by omega
  have ei : x.i = (x.i.toNat : Int) := by omega
  have ew : x.w = (x.w.toNat : Int) := by omega
  have la : x.a.toNat ≤ 1 := by omega
  have lc : x.b.toNat ≤ 1 := by omega
  have hpos : (2 * x.a.toNat + x.b.toNat) * x.w.toNat + x.w.toNat ≤ 4 * x.w.toNat := by
    have := Nat.mul_le_mul_right x.w.toNat (by omega : 2 * x.a.toNat + x.b.toNat + 1 ≤ 4)
    rw [Nat.add_mul, Nat.one_mul] at this
    exact this
  rcases (by omega : x.phase = 0 ∨ x.phase = 1 ∨ x.phase = 2 ∨ x.phase = 3 ∨ x.phase = 4) with p | p | p | p | p
  · have hs : stepW x rec ws = ({ x with a := (ws.getD (x.base.toNat + 1) 0 + 1) % 2, phase := 1, i := 0 }, rec, ws) := by simp [stepW, p]
    rw [hs]
    exact write_0 x.base.toNat hm eb hn (by omega) p h
  · have hs : stepW x rec ws = ({ x with b := (ws.getD (x.base.toNat + (2 + x.a.toNat)) 0 + 1) % 2, phase := 2, i := 0 }, rec, ws) := by simp [stepW, p]
    rw [hs]
    exact write_1 x.base.toNat hm eb hn x.a.toNat ea la (by omega) p h
  · have hs : stepW x rec ws = (if x.w.toNat ≤ x.i.toNat + 1 then { x with phase := 3, i := 0 } else { x with i := (x.i.toNat : Int) + 1 }, rec, ws.set (x.base.toNat + ((4 + (2 * x.a.toNat + x.b.toNat) * x.w.toNat) + x.i.toNat)) (rec.getD x.i.toNat 0)) := by simp [stepW, p]
    rw [hs]
    refine (write_2 x.base.toNat hm eb hn x.a.toNat x.b.toNat x.w.toNat x.i.toNat ea la ec lc ew (by omega) ei (by omega) (.inl hop) (by omega) (by omega) p h).mono ?_
    rintro e W' ⟨rfl, hx⟩
    exact ⟨rfl, by simpa only [ite_self] using hx⟩
  · have hs : stepW x rec ws = ({ x with phase := 4, i := 0 }, rec, ws.set (x.base.toNat + (2 + x.a.toNat)) (x.b.toNat : Int)) := by simp [stepW, p]
    rw [hs]
    exact write_3 x.base.toNat hm eb hn x.a.toNat x.b.toNat ea la ec lc (by omega) p h
  · have hs : stepW x rec ws = ({ x with over := true, code := 0 }, endRec x.op 0 rec, ws.set x.base.toNat (x.a.toNat : Int)) := by simp [stepW, p]
    rw [hs]
    exact write_4 x.base.toNat hm eb hn x.a.toNat ea la (by omega) p h

set_option maxHeartbeats 2000000 in
theorem read_any {T : TypeId} {bx mb : Nat} {sv r0 : Value} {W0 W : World} {x : Core} {rec ws : List Int} {n : Int} (hI : Shape x rec) (hov : x.over = false) (hop : x.op = 1) (hm : x.m = .pointer (some ⟨mb, 0, none⟩)) (hfit : x.base + x.size ≤ ws.length) (hn : 0 ≤ n ∧ n ≤ 1000000) (h : St T bx mb sv W0 r0 W x rec ws n) :
    Calls Try.prog 59 #[.pointer (some ⟨bx, 0, none⟩)] W fun e W' => e = .returned (.tuple #[]) ∧ St T bx mb sv W0 r0 W' (stepR x rec ws).1 (stepR x rec ws).2.1 (stepR x rec ws).2.2 (n + 1) := by
  have hw := hI.w; have ha := hI.a; have hb := hI.b; have hba := hI.base; have hsz := hI.size; have hi := hI.i hov
  have hph : (0 ≤ x.phase ∧ x.phase ≤ 3) ∧ (rec.length : Int) = if x.phase = 3 then x.i else 0 := by rcases hI.op with ⟨h1, _⟩ | ⟨_, h1, h2⟩; omega; exact ⟨h1, h2 hov⟩
  have hrl : rec.length < 1000 := by have := hph.2; split at this <;> omega
  have eb : x.base = (x.base.toNat : Int) := by omega
  have ea : x.a = (x.a.toNat : Int) := by omega
  have ec : x.b = (x.b.toNat : Int) := by omega
  have ei : x.i = (x.i.toNat : Int) := by omega
  have ew : x.w = (x.w.toNat : Int) := by omega
  have la : x.a.toNat ≤ 1 := by omega
  have lc : x.b.toNat ≤ 1 := by omega
  have hpos : (2 * x.a.toNat + x.b.toNat) * x.w.toNat + x.w.toNat ≤ 4 * x.w.toNat := by
    have := Nat.mul_le_mul_right x.w.toNat (by omega : 2 * x.a.toNat + x.b.toNat + 1 ≤ 4)
    rw [Nat.add_mul, Nat.one_mul] at this
    exact this
  rcases (by omega : x.phase = 0 ∨ x.phase = 1 ∨ x.phase = 2 ∨ x.phase = 3) with p | p | p | p
  · have hs : stepR x rec ws = ({ x with a := ws.getD (x.base.toNat + 0) 0 % 2, phase := 1, i := 0 }, rec, ws) := by simp [stepR, p]
    rw [hs]
    exact read_0 x.base.toNat hm eb hn (by omega) p h
  · have hs : stepR x rec ws = ({ x with phase := 2, i := 0 }, rec, ws.set (x.base.toNat + 1) (x.a.toNat : Int)) := by simp [stepR, p]
    rw [hs]
    exact read_1 x.base.toNat hm eb hn x.a.toNat ea la (by omega) p h
  · have hs : stepR x rec ws = ({ x with b := ws.getD (x.base.toNat + (2 + x.a.toNat)) 0 % 2, phase := 3, i := 0 }, rec, ws) := by simp [stepR, p]
    rw [hs]
    exact read_2 x.base.toNat hm eb hn x.a.toNat ea la (by omega) p h
  · have hs : stepR x rec ws = (if x.w.toNat ≤ x.i.toNat + 1 then { x with i := (x.i.toNat : Int) + 1, over := true, code := 0 } else { x with i := (x.i.toNat : Int) + 1 },
        if x.w.toNat ≤ x.i.toNat + 1 then endRec x.op 0 (rec ++ [ws.getD (x.base.toNat + ((4 + (2 * x.a.toNat + x.b.toNat) * x.w.toNat) + x.i.toNat)) 0]) else rec ++ [ws.getD (x.base.toNat + ((4 + (2 * x.a.toNat + x.b.toNat) * x.w.toNat) + x.i.toNat)) 0], ws) := by simp [stepR, p]
    rw [hs]
    exact read_3 x.base.toNat hm eb hn x.a.toNat x.b.toNat x.w.toNat x.i.toNat ea la ec lc ew (by omega) ei (by omega) (by omega) hrl (by omega) p h

theorem e8of {T : TypeId} {bx mb : Nat} {sv r0 : Value} {W0 W : World} {x : Core} {rec ws : List Int} {n o : Int} {mv : Value} {k : Int} (ho : x.op = o) (h : St T bx mb sv W0 r0 W { x with m := mv, steps := k } rec ws n) : W.cell? ⟨bx, 8, none⟩ = some (.int .i64 o) := by
  rw [← ho]; exact h.cell 8 _ (fun _ => rfl)
theorem Shape.up {x : Core} {rec : List Int} (h : Shape x rec) (mv : Value) (k : Int) : Shape { x with m := mv, steps := k } rec := ⟨h.w, h.a, h.b, h.base, h.size, h.i, h.op⟩
theorem opens_spec {x : Core} {l : Nat} (h : opens x l = true) : x.over = false ∧ 0 ≤ x.base ∧ 0 ≤ x.size ∧ x.base + x.size ≤ l := by
  simp only [opens, insB, Bool.and_eq_true, Bool.not_eq_true', decide_eq_true_eq] at h
  exact ⟨h.1, h.2.1, h.2.2.1, by omega⟩
set_option maxHeartbeats 2000000 in
theorem Step_yes {T : TypeId} {bx mb : Nat} {sv r0 : Value} {W0 W : World} {x : Core} {rec ws : List Int} {n : Int} (hI : Shape x rec) (hs : 0 ≤ x.steps ∧ x.steps ≤ 1000000) (ho : opens x ws.length = true) (hn : 0 ≤ n ∧ n ≤ 1000000) (h : St T bx mb sv W0 r0 W x rec ws n) :
    Calls Try.prog 26 #[.pointer (some ⟨bx, 0, none⟩), .pointer (some ⟨mb, 0, none⟩)] W fun e W' => e = .returned (.bool true) ∧
      St T bx mb sv W0 r0 W' (step x (.pointer (some ⟨mb, 0, none⟩)) rec ws).1 (step x (.pointer (some ⟨mb, 0, none⟩)) rec ws).2.1 (step x (.pointer (some ⟨mb, 0, none⟩)) rec ws).2.2 (n + 1) := by
  have H := Lib.hid h
  obtain ⟨hov, _, _, hfit⟩ := opens_spec ho
  have HS := Lib.hid hs
  have HO := Lib.hid ho
  have hop : (x.op = 2 ∨ x.op = 1) := by rcases hI.op with h1 | h1 <;> simp [h1.1]
  rcases hop with hop | hop
  · have hst : step x (.pointer (some ⟨mb, 0, none⟩)) rec ws = stepW { x with m := .pointer (some ⟨mb, 0, none⟩), steps := x.steps + 1 } rec ws := by simp [step, hop]
    rw [hst]
    have K := Lib.hid (fun W1 (hx : St T bx mb sv W0 r0 W1 { x with m := .pointer (some ⟨mb, 0, none⟩), steps := x.steps + 1 } rec ws n) => write_any (hI.up (.pointer (some ⟨mb, 0, none⟩)) (x.steps + 1)) hov hop rfl hfit hn hx)
    have HOP := Lib.hid hop
    clear h hst hI hov hfit hop hs ho hn
    go_enter Try.func26, Try.ntmps26
    go_wp2_with (first | (go_at_call 57; refine (Open_yes HS.out HO.out H.out).mono ?_; rintro e w1 ⟨rfl, hx⟩; have e8 : w1.cell? ⟨bx, 8, none⟩ = some (.int .i64 2) := e8of HOP.out hx; have H1 := Lib.hid hx; clear hx) | (go_at_call 58; refine (K.out _ H1.out).mono ?_; rintro e w2 ⟨rfl, hx⟩; have H2 := Lib.hid hx; clear hx))
    go_ret
    exact ⟨rfl, H2.out⟩
  · have hst : step x (.pointer (some ⟨mb, 0, none⟩)) rec ws = stepR { x with m := .pointer (some ⟨mb, 0, none⟩), steps := x.steps + 1 } rec ws := by simp [step, hop]
    rw [hst]
    have K := Lib.hid (fun W1 (hx : St T bx mb sv W0 r0 W1 { x with m := .pointer (some ⟨mb, 0, none⟩), steps := x.steps + 1 } rec ws n) => read_any (hI.up (.pointer (some ⟨mb, 0, none⟩)) (x.steps + 1)) hov hop rfl hfit hn hx)
    have HOP := Lib.hid hop
    clear h hst hI hov hfit hop hs ho hn
    go_enter Try.func26, Try.ntmps26
    go_wp2_with (first | (go_at_call 57; refine (Open_yes HS.out HO.out H.out).mono ?_; rintro e w1 ⟨rfl, hx⟩; have e8 : w1.cell? ⟨bx, 8, none⟩ = some (.int .i64 1) := e8of HOP.out hx; have H1 := Lib.hid hx; clear hx) | (go_at_call 59; refine (K.out _ H1.out).mono ?_; rintro e w2 ⟨rfl, hx⟩; have H2 := Lib.hid hx; clear hx))
    go_ret
    exact ⟨rfl, H2.out⟩
set_option maxHeartbeats 2000000 in
theorem Step_no {T : TypeId} {bx mb : Nat} {sv r0 : Value} {W0 W : World} {x : Core} {rec ws : List Int} {n : Int} (ho : opens x ws.length = false) (h : St T bx mb sv W0 r0 W x rec ws n) :
    Calls Try.prog 26 #[.pointer (some ⟨bx, 0, none⟩), .pointer (some ⟨mb, 0, none⟩)] W fun e W' => e = .returned (.bool false) ∧ Chg [] W W' := by
  have H := Lib.hid h
  have HO := Lib.hid ho
  clear h ho
  go_enter Try.func26, Try.ntmps26
  go_wp2_with (go_at_call 57; refine (Open_no HO.out H.out).mono ?_; rintro e w1 ⟨rfl, hx⟩; have H1 := Lib.hid hx; clear hx)
  go_ret
  exact ⟨rfl, H1.out⟩
theorem Step_nil (mv : Value) (W : World) : Calls Try.prog 26 #[.pointer none, mv] W fun e W' => e = .returned (.bool false) ∧ W = W' := by
  go_enter Try.func26, Try.ntmps26
  go_wp2_with fail
  go_ret
  exact ⟨rfl, rfl⟩
end Go.Proofs.Ytbbpnpokccfhjaa.four
