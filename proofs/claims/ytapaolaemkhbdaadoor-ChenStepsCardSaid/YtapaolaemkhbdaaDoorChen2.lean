/- Package chen: a step, whatever it is. -/
import Derived.Test.YtapaolaemkhbdaaDoorChen1
namespace Go.Proofs.YtapaolaemkhbdaaDoor.chen
open Go Go.RowKit Go.Proofs.YtapaolaemkhbdaaDoor.kit Go.Proofs.YtapaolaemkhbdaaDoor.mem Go.Proofs.YtapaolaemkhbdaaDoor.rop Go.Proofs.YtapaolaemkhbdaaDoor.core
set_option linter.unusedVariables false
set_option linter.unusedSimpArgs false
set_option maxRecDepth 20000

/-- a step of a write, in plain lists -/
def stepW (x : Core) (rec ws : List Int) : Core × List Int × List Int :=
  if x.phase = 0 then ({ x with a := ws.getD (x.base.toNat + 0) 0, phase := 1, i := 0 }, rec, ws)
  else if x.phase = 1 then (scanC x (ws.getD (x.base.toNat + (1 + x.i.toNat)) 0), rec, ws)
  else if x.phase = 2 then (if x.w.toNat ≤ x.i.toNat + 1 then { x with phase := 3, i := 0 } else { x with i := (x.i.toNat : Int) + 1 }, rec, ws.set (x.base.toNat + (place x x.b + x.i.toNat)) (rec.getD x.i.toNat 0))
  else if x.phase = 3 then ({ x with phase := 4, i := 0 }, rec, ws.set (x.base.toNat + 0) x.b)
  else (if x.rl ≤ x.i.toNat + 1 then { x with i := (x.i.toNat : Int) + 1, over := true, code := 0 } else { x with i := (x.i.toNat : Int) + 1 }, if x.rl ≤ x.i.toNat + 1 then endRec x.op 0 rec else rec, swapL ws (x.base.toNat + (1 + x.i.toNat)) ((x.rl : Int) + 2) x.b)
/-- a step of a read, in plain lists -/
def stepR (x : Core) (rec ws : List Int) : Core × List Int × List Int :=
  if x.phase = 0 then ({ x with phase := 1, i := 0 }, rec, ws.set (x.base.toNat + (1 + x.reader.toNat)) ((x.rl : Int) + 2))
  else if x.phase = 1 then ({ x with a := ws.getD (x.base.toNat + 0) 0, phase := 2, i := 0 }, rec, ws)
  else if x.phase = 2 then ({ x with phase := 3, i := 0 }, rec, swapL ws (x.base.toNat + (1 + x.reader.toNat)) ((x.rl : Int) + 2) x.a)
  else if x.phase = 3 then ({ x with b := ws.getD (x.base.toNat + (1 + x.reader.toNat)) 0 % ((x.rl : Int) + 2), phase := 4, i := 0 }, rec, ws)
  else (if x.w.toNat ≤ x.i.toNat + 1 then { x with i := (x.i.toNat : Int) + 1, over := true, code := 0 } else { x with i := (x.i.toNat : Int) + 1 }, if x.w.toNat ≤ x.i.toNat + 1 then endRec x.op 0 (rec ++ [ws.getD (x.base.toNat + (place x x.b + x.i.toNat)) 0]) else rec ++ [ws.getD (x.base.toNat + (place x x.b + x.i.toNat)) 0], ws)
/-- a step, in plain lists -/
def step (x : Core) (mv : Value) (rec ws : List Int) : Core × List Int × List Int :=
  if x.op = 2 then stepW { x with m := mv, steps := x.steps + 1 } rec ws else stepR { x with m := mv, steps := x.steps + 1 } rec ws

/-- what an operation keeps -/
structure Shape (x : Core) (rec : List Int) : Prop where
  w : 1 ≤ x.w ∧ x.w ≤ 8
  rl : 1 ≤ x.rl ∧ x.rl ≤ 4
  a : 0 ≤ x.a ∧ x.a ≤ 4294967295
  b : 0 ≤ x.b ∧ x.b < (x.rl : Int) + 2
  reader : 0 ≤ x.reader ∧ x.reader < x.rl
  base : 0 ≤ x.base
  size : x.size = 1 + x.rl + ((x.rl : Int) + 2) * x.w
  marks : x.over = false → x.op = 2 → x.phase ≤ 1 → bitm.Marks x.used (if x.phase = 1 then x.i else 0)
  i : x.over = false → 0 ≤ x.i ∧ (if x.op = 2 ∧ (x.phase = 1 ∨ x.phase = 4) then x.i < x.rl else x.i < x.w)
  op : (x.op = 2 ∧ (0 ≤ x.phase ∧ x.phase ≤ 4) ∧ (x.over = false → (rec.length : Int) = x.w)) ∨ (x.op = 1 ∧ (0 ≤ x.phase ∧ x.phase ≤ 4) ∧ (x.over = false → (rec.length : Int) = if x.phase = 4 then x.i else 0))

theorem place_fit {x : Core} {sl : Int} (hs : 1 ≤ x.rl ∧ x.rl ≤ 4) (hw : 1 ≤ x.w ∧ x.w ≤ 8) (h : 0 ≤ sl ∧ sl < (x.rl : Int) + 2) : 1 + x.rl ≤ place x sl ∧ (place x sl : Int) + x.w ≤ 1 + x.rl + ((x.rl : Int) + 2) * x.w := by
  have h3 := mul_bd (c := sl) (w := x.w) (m := (x.rl : Int) + 1) ⟨h.1, by omega⟩ (by omega) (by omega)
  have h4 : ((x.rl : Int) + 2) * x.w = ((x.rl : Int) + 1) * x.w + x.w := by rw [Int.add_mul, Int.add_mul, Int.one_mul]; omega
  unfold place
  omega

set_option maxHeartbeats 2000000 in
theorem write_any {T : TypeId} {bx mb : Nat} {sv r0 : Value} {W0 W : World} {x : Core} {rec ws : List Int} {n : Int} (hT : ∀ V x' rec' ws' n', St T bx mb sv W0 r0 V x' rec' ws' n' → bitm.Tab V) (hI : Shape x rec) (hov : x.over = false) (hop : x.op = 2) (hm : x.m = .pointer (some ⟨mb, 0, none⟩)) (hfit : x.base + x.size ≤ ws.length) (hn : 0 ≤ n ∧ n ≤ 1000000) (h : St T bx mb sv W0 r0 W x rec ws n) :
    Calls Tryd.prog 70 #[.pointer (some ⟨bx, 0, none⟩)] W fun e W' => e = .returned (.tuple #[]) ∧ St T bx mb sv W0 r0 W' (stepW x rec ws).1 (stepW x rec ws).2.1 (stepW x rec ws).2.2 (n + 1) := by
  have hw := hI.w; have ha := hI.a; have hb := hI.b; have hba := hI.base; have hsz := hI.size; have hi := hI.i hov; have hrl := hI.rl; have hrd := hI.reader
  have hfb := place_fit (x := x) (sl := x.b) hrl hw hb
  have hph : (0 ≤ x.phase ∧ x.phase ≤ 4) ∧ (rec.length : Int) = x.w := by rcases hI.op with ⟨_, h1, h2⟩ | ⟨h1, _⟩; exact ⟨h1, h2 hov⟩; omega
  have eb : x.base = (x.base.toNat : Int) := by omega
  have ei : x.i = (x.i.toNat : Int) := by omega
  have ew : x.w = (x.w.toNat : Int) := by omega
  have er : x.reader = (x.reader.toNat : Int) := by omega
  have hnn := Int.mul_nonneg (show 0 ≤ (x.rl : Int) + 2 by omega) (show 0 ≤ x.w by omega)
  have hj0 : x.base.toNat + 0 < ws.length := by omega
  have hjr : x.base.toNat + (1 + x.reader.toNat) < ws.length := by omega
  rcases (by omega : x.phase = 0 ∨ x.phase = 1 ∨ x.phase = 2 ∨ x.phase = 3 ∨ x.phase = 4) with p | p | p | p | p
  · have hst : stepW x rec ws = ({ x with a := ws.getD (x.base.toNat + 0) 0, phase := 1, i := 0 }, rec, ws) := by simp [stepW, p]
    rw [hst]
    exact write_0 x.base.toNat hm eb hn hj0 p h
  · have hst : stepW x rec ws = (scanC x (ws.getD (x.base.toNat + (1 + x.i.toNat)) 0), rec, ws) := by simp [stepW, p]
    rw [hst]
    rw [if_pos ⟨hop, .inl p⟩] at hi
    have h11 : x.base.toNat + (1 + x.i.toNat) < ws.length := by omega
    exact write_1 x.base.toNat x.i.toNat hT hm eb hn ei (by omega) (by omega) ha (hI.marks hov hop (by omega)).bd h11 p h
  · have hst : stepW x rec ws = (if x.w.toNat ≤ x.i.toNat + 1 then { x with phase := 3, i := 0 } else { x with i := (x.i.toNat : Int) + 1 }, rec, ws.set (x.base.toNat + (place x x.b + x.i.toNat)) (rec.getD x.i.toNat 0)) := by simp [stepW, p]
    rw [hst]
    rw [if_neg (by omega)] at hi
    have h9 := hph.2
    have h10 : x.i.toNat < rec.length := by omega
    have h11 : x.base.toNat + (place x x.b + x.i.toNat) < ws.length := by omega
    exact write_2 x.base.toNat hm eb hn x.w.toNat x.i.toNat (place x x.b) hw (by omega) ⟨hb.1, by omega⟩ rfl ew ei (by omega) (.inl hop) h10 h11 p h
  · have hst : stepW x rec ws = ({ x with phase := 4, i := 0 }, rec, ws.set (x.base.toNat + 0) x.b) := by simp [stepW, p]
    rw [hst]
    exact write_3 x.base.toNat hm eb hn ⟨hb.1, by omega⟩ hj0 p h
  · have hst : stepW x rec ws = (if x.rl ≤ x.i.toNat + 1 then { x with i := (x.i.toNat : Int) + 1, over := true, code := 0 } else { x with i := (x.i.toNat : Int) + 1 }, if x.rl ≤ x.i.toNat + 1 then endRec x.op 0 rec else rec, swapL ws (x.base.toNat + (1 + x.i.toNat)) ((x.rl : Int) + 2) x.b) := by simp [stepW, p]
    rw [hst]
    rw [if_pos ⟨hop, .inr p⟩] at hi
    have h11 : x.base.toNat + (1 + x.i.toNat) < ws.length := by omega
    exact write_4 x.base.toNat hm eb hn x.i.toNat ei (by omega) (by omega) ⟨hb.1, by omega⟩ h11 p h

set_option maxHeartbeats 2000000 in
theorem read_any {T : TypeId} {bx mb : Nat} {sv r0 : Value} {W0 W : World} {x : Core} {rec ws : List Int} {n : Int}  (hI : Shape x rec) (hov : x.over = false) (hop : x.op = 1) (hm : x.m = .pointer (some ⟨mb, 0, none⟩)) (hfit : x.base + x.size ≤ ws.length) (hn : 0 ≤ n ∧ n ≤ 1000000) (h : St T bx mb sv W0 r0 W x rec ws n) :
    Calls Tryd.prog 71 #[.pointer (some ⟨bx, 0, none⟩)] W fun e W' => e = .returned (.tuple #[]) ∧ St T bx mb sv W0 r0 W' (stepR x rec ws).1 (stepR x rec ws).2.1 (stepR x rec ws).2.2 (n + 1) := by
  have hw := hI.w; have ha := hI.a; have hb := hI.b; have hba := hI.base; have hsz := hI.size; have hi := hI.i hov; have hrl := hI.rl; have hrd := hI.reader
  have hfb := place_fit (x := x) (sl := x.b) hrl hw hb
  have hph : (0 ≤ x.phase ∧ x.phase ≤ 4) ∧ (rec.length : Int) = if x.phase = 4 then x.i else 0 := by rcases hI.op with ⟨h1, _⟩ | ⟨_, h1, h2⟩; omega; exact ⟨h1, h2 hov⟩
  rw [if_neg (by omega)] at hi
  have eb : x.base = (x.base.toNat : Int) := by omega
  have ei : x.i = (x.i.toNat : Int) := by omega
  have ew : x.w = (x.w.toNat : Int) := by omega
  have er : x.reader = (x.reader.toNat : Int) := by omega
  have hnn := Int.mul_nonneg (show 0 ≤ (x.rl : Int) + 2 by omega) (show 0 ≤ x.w by omega)
  have hj0 : x.base.toNat + 0 < ws.length := by omega
  have hjr : x.base.toNat + (1 + x.reader.toNat) < ws.length := by omega
  rcases (by omega : x.phase = 0 ∨ x.phase = 1 ∨ x.phase = 2 ∨ x.phase = 3 ∨ x.phase = 4) with p | p | p | p | p
  · have hst : stepR x rec ws = ({ x with phase := 1, i := 0 }, rec, ws.set (x.base.toNat + (1 + x.reader.toNat)) ((x.rl : Int) + 2)) := by simp [stepR, p]
    rw [hst]
    exact read_0 x.base.toNat hm eb hn x.reader.toNat er (by omega) (by omega) hjr p h
  · have hst : stepR x rec ws = ({ x with a := ws.getD (x.base.toNat + 0) 0, phase := 2, i := 0 }, rec, ws) := by simp [stepR, p]
    rw [hst]
    exact read_1 x.base.toNat hm eb hn x.reader.toNat er (by omega) hj0 p h
  · have hst : stepR x rec ws = ({ x with phase := 3, i := 0 }, rec, swapL ws (x.base.toNat + (1 + x.reader.toNat)) ((x.rl : Int) + 2) x.a) := by simp [stepR, p]
    rw [hst]
    exact read_2 x.base.toNat hm eb hn x.reader.toNat er (by omega) (by omega) ha hjr p h
  · have hst : stepR x rec ws = ({ x with b := ws.getD (x.base.toNat + (1 + x.reader.toNat)) 0 % ((x.rl : Int) + 2), phase := 4, i := 0 }, rec, ws) := by simp [stepR, p]
    rw [hst]
    exact read_3 x.base.toNat hm eb hn x.reader.toNat er (by omega) (by omega) hjr p h
  · have hst : stepR x rec ws = (if x.w.toNat ≤ x.i.toNat + 1 then { x with i := (x.i.toNat : Int) + 1, over := true, code := 0 } else { x with i := (x.i.toNat : Int) + 1 }, if x.w.toNat ≤ x.i.toNat + 1 then endRec x.op 0 (rec ++ [ws.getD (x.base.toNat + (place x x.b + x.i.toNat)) 0]) else rec ++ [ws.getD (x.base.toNat + (place x x.b + x.i.toNat)) 0], ws) := by simp [stepR, p]
    rw [hst]
    have hrlen : rec.length < 1000 := by have h9 := hph.2; rw [if_pos p] at h9; omega
    have h11 : x.base.toNat + (place x x.b + x.i.toNat) < ws.length := by omega
    exact read_4 x.base.toNat hm eb hn x.reader.toNat er (by omega) x.w.toNat x.i.toNat (place x x.b) hw (by omega) ⟨hb.1, by omega⟩ rfl ew ei (by omega) (by omega) hrlen h11 p h
theorem e8of {T : TypeId} {bx mb : Nat} {sv r0 : Value} {W0 W : World} {x : Core} {rec ws : List Int} {n o : Int} {mv : Value} {k : Int} (ho : x.op = o) (h : St T bx mb sv W0 r0 W { x with m := mv, steps := k } rec ws n) : W.cell? ⟨bx, 8, none⟩ = some (.int .i64 o) := by
  rw [← ho]; exact h.cell 8 _ (fun _ => rfl)
theorem Shape.up {x : Core} {rec : List Int} (h : Shape x rec) (mv : Value) (k : Int) : Shape { x with m := mv, steps := k } rec := ⟨h.w, h.rl, h.a, h.b, h.reader, h.base, h.size, h.marks, h.i, h.op⟩
theorem opens_spec {x : Core} {l : Nat} (h : opens x l = true) : x.over = false ∧ 0 ≤ x.base ∧ 0 ≤ x.size ∧ x.base + x.size ≤ l := by
  simp only [opens, insB, Bool.and_eq_true, Bool.not_eq_true', decide_eq_true_eq] at h
  exact ⟨h.1, h.2.1, h.2.2.1, by omega⟩
set_option maxHeartbeats 2000000 in
theorem Step_yes {T : TypeId} {bx mb : Nat} {sv r0 : Value} {W0 W : World} {x : Core} {rec ws : List Int} {n : Int} (hT : ∀ V x' rec' ws' n', St T bx mb sv W0 r0 V x' rec' ws' n' → bitm.Tab V) (hI : Shape x rec) (hs : 0 ≤ x.steps ∧ x.steps ≤ 1000000) (ho : opens x ws.length = true) (hn : 0 ≤ n ∧ n ≤ 1000000) (h : St T bx mb sv W0 r0 W x rec ws n) :
    Calls Tryd.prog 39 #[.pointer (some ⟨bx, 0, none⟩), .pointer (some ⟨mb, 0, none⟩)] W fun e W' => e = .returned (.bool true) ∧
      St T bx mb sv W0 r0 W' (step x (.pointer (some ⟨mb, 0, none⟩)) rec ws).1 (step x (.pointer (some ⟨mb, 0, none⟩)) rec ws).2.1 (step x (.pointer (some ⟨mb, 0, none⟩)) rec ws).2.2 (n + 1) := by
  have H := Lib.hid h
  obtain ⟨hov, _, _, hfit⟩ := opens_spec ho
  have HS := Lib.hid hs
  have HO := Lib.hid ho
  have hop : (x.op = 2 ∨ x.op = 1) := by rcases hI.op with h1 | h1 <;> simp [h1.1]
  rcases hop with hop | hop
  · have hst : step x (.pointer (some ⟨mb, 0, none⟩)) rec ws = stepW { x with m := .pointer (some ⟨mb, 0, none⟩), steps := x.steps + 1 } rec ws := by simp [step, hop]
    rw [hst]
    have K := Lib.hid (fun W1 (hx : St T bx mb sv W0 r0 W1 { x with m := .pointer (some ⟨mb, 0, none⟩), steps := x.steps + 1 } rec ws n) => write_any hT (hI.up (.pointer (some ⟨mb, 0, none⟩)) (x.steps + 1)) hov hop rfl hfit hn hx)
    have HOP := Lib.hid hop
    clear h hst hI hov hfit hop hs ho hn hT
    go_enter Tryd.func39, Tryd.ntmps39
    go_wp2_with (first | (go_at_call 61; refine (Open_yes HS.out HO.out H.out).mono ?_; rintro e w1 ⟨rfl, hx⟩; have e8 : w1.cell? ⟨bx, 8, none⟩ = some (.int .i64 2) := e8of HOP.out hx; have H1 := Lib.hid hx; clear hx) | (go_at_call 70; refine (K.out _ H1.out).mono ?_; rintro e w2 ⟨rfl, hx⟩; have H2 := Lib.hid hx; clear hx))
    go_ret
    exact ⟨rfl, H2.out⟩
  · have hst : step x (.pointer (some ⟨mb, 0, none⟩)) rec ws = stepR { x with m := .pointer (some ⟨mb, 0, none⟩), steps := x.steps + 1 } rec ws := by simp [step, hop]
    rw [hst]
    have K := Lib.hid (fun W1 (hx : St T bx mb sv W0 r0 W1 { x with m := .pointer (some ⟨mb, 0, none⟩), steps := x.steps + 1 } rec ws n) => read_any (hI.up (.pointer (some ⟨mb, 0, none⟩)) (x.steps + 1)) hov hop rfl hfit hn hx)
    have HOP := Lib.hid hop
    clear h hst hI hov hfit hop hs ho hn hT
    go_enter Tryd.func39, Tryd.ntmps39
    go_wp2_with (first | (go_at_call 61; refine (Open_yes HS.out HO.out H.out).mono ?_; rintro e w1 ⟨rfl, hx⟩; have e8 : w1.cell? ⟨bx, 8, none⟩ = some (.int .i64 1) := e8of HOP.out hx; have H1 := Lib.hid hx; clear hx) | (go_at_call 71; refine (K.out _ H1.out).mono ?_; rintro e w2 ⟨rfl, hx⟩; have H2 := Lib.hid hx; clear hx))
    go_ret
    exact ⟨rfl, H2.out⟩
set_option maxHeartbeats 2000000 in
theorem Step_no {T : TypeId} {bx mb : Nat} {sv r0 : Value} {W0 W : World} {x : Core} {rec ws : List Int} {n : Int} (ho : opens x ws.length = false) (h : St T bx mb sv W0 r0 W x rec ws n) :
    Calls Tryd.prog 39 #[.pointer (some ⟨bx, 0, none⟩), .pointer (some ⟨mb, 0, none⟩)] W fun e W' => e = .returned (.bool false) ∧ Chg [] W W' := by
  have H := Lib.hid h
  have HO := Lib.hid ho
  clear h ho
  go_enter Tryd.func39, Tryd.ntmps39
  go_wp2_with (go_at_call 61; refine (Open_no HO.out H.out).mono ?_; rintro e w1 ⟨rfl, hx⟩; have H1 := Lib.hid hx; clear hx)
  go_ret
  exact ⟨rfl, H1.out⟩
theorem Step_nil (mv : Value) (W : World) : Calls Tryd.prog 39 #[.pointer none, mv] W fun e W' => e = .returned (.bool false) ∧ W = W' := by
  go_enter Tryd.func39, Tryd.ntmps39
  go_wp2_with fail
  go_ret
  exact ⟨rfl, rfl⟩

/-- how many steps are left at most -/
def left (x : Core) : Int :=
  if x.over then 0 else if x.op = 2 then (if x.phase = 0 then x.w + 2 * x.rl + 2 else if x.phase = 1 then x.w + 2 * x.rl + 1 - x.i else if x.phase = 2 then x.w + x.rl + 1 - x.i else if x.phase = 3 then x.rl + 1 else x.rl - x.i) else (if x.phase = 0 then x.w + 4 else if x.phase = 1 then x.w + 3 else if x.phase = 2 then x.w + 2 else if x.phase = 3 then x.w + 1 else x.w - x.i)
theorem left_over {x : Core} (ho : x.over = true) : left x = 0 := by simp [left, ho]
theorem left_pos {x : Core} {rec : List Int} (h : Shape x rec) (ho : x.over = false) : 1 ≤ left x := by
  have hw := h.w; have hi := h.i ho; have hrl := h.rl
  rcases h.op with ⟨o, p, _⟩ | ⟨o, p, _⟩
  · simp only [left, ho, o]; simp
    rcases (by omega : x.phase = 0 ∨ x.phase = 1 ∨ x.phase = 2 ∨ x.phase = 3 ∨ x.phase = 4) with q | q | q | q | q
    all_goals (simp [o, q] at hi ⊢; omega)
  · simp only [left, ho, o]; simp
    rw [if_neg (by omega)] at hi
    (repeat' split) <;> omega
theorem step_len (x : Core) (mv : Value) (rec ws : List Int) : (step x mv rec ws).2.2.length = ws.length := by
  simp only [step, stepW, stepR]
  (repeat' split) <;> simp [swapL_length]
theorem mod_bd {s v : Int} (hs : 1 ≤ s) : 0 ≤ v % s ∧ v % s < s := ⟨Int.emod_nonneg v (by omega), Int.emod_lt_of_pos v (by omega)⟩
theorem getD_bd {ws : List Int} (hw : ∀ z ∈ ws, 0 ≤ z ∧ z ≤ 4294967295) (i : Nat) : 0 ≤ ws.getD i 0 ∧ ws.getD i 0 ≤ 4294967295 := by
  by_cases h : i < ws.length
  · simp [List.getD, h]; exact hw _ (List.getElem_mem h)
  · simp [List.getD, h]
theorem step_ok {x : Core} {rec ws : List Int} (mv : Value) (h : Shape x rec) (ho : x.over = false) (hws : ∀ z ∈ ws, 0 ≤ z ∧ z ≤ 4294967295) :
    Shape (step x mv rec ws).1 (step x mv rec ws).2.1 ∧ left (step x mv rec ws).1 + 1 ≤ left x ∧ (step x mv rec ws).1.steps = x.steps + 1 ∧ (step x mv rec ws).1.m = mv ∧ (step x mv rec ws).1.base = x.base ∧ (step x mv rec ws).1.size = x.size := by
  obtain ⟨hw, hrl, ha, hb, hrd, hba, hsz, hmk, hi, hop⟩ := h
  have hi := hi ho
  have g0 := getD_bd hws
  rcases hop with ⟨o, p, r⟩ | ⟨o, p, r⟩
  · have r := r ho
    have hmk := hmk ho o
    have hst : step x mv rec ws = stepW { x with m := mv, steps := x.steps + 1 } rec ws := by unfold step; rw [if_pos o]
    rw [hst]
    have hl : left x = (if x.phase = 0 then x.w + 2 * x.rl + 2 else if x.phase = 1 then x.w + 2 * x.rl + 1 - x.i else if x.phase = 2 then x.w + x.rl + 1 - x.i else if x.phase = 3 then x.rl + 1 else x.rl - x.i) := by unfold left; rw [if_neg (by simp [ho]), if_pos o]
    rcases (by omega : x.phase = 0 ∨ x.phase = 1 ∨ x.phase = 2 ∨ x.phase = 3 ∨ x.phase = 4) with q | q | q | q | q
    · have hmk := hmk (by omega)
      rw [if_neg (by omega)] at hmk
      rw [if_neg (by omega)] at hi
      unfold stepW
      rw [if_pos (show ({ x with m := mv, steps := x.steps + 1 } : Core).phase = 0 from q)]
      dsimp only
      refine ⟨⟨hw, hrl, g0 _, hb, hrd, hba, hsz, fun _ _ _ => by simp only [if_true]; exact hmk, fun _ => by simp [o]; omega, .inl ⟨o, by simp, fun _ => r⟩⟩, ?_, rfl, rfl, rfl, rfl⟩
      rw [hl, if_pos q]
      simp [left, ho, o] <;> omega
    · have hmk := hmk (by omega)
      rw [if_pos q] at hmk
      rw [if_pos ⟨o, .inl q⟩] at hi
      obtain ⟨u, hu⟩ : ∃ u, ws.getD (x.base.toNat + (1 + x.i.toNat)) 0 = u := ⟨_, rfl⟩
      have hu0 : 0 ≤ u := by rw [← hu]; exact (g0 _).1
      have hm1 : bitm.Marks (bitm.markU x.used u) (x.i + 1) := hmk.mark hu0
      unfold stepW
      rw [if_neg (show ¬ ({ x with m := mv, steps := x.steps + 1 } : Core).phase = 0 by show ¬ x.phase = 0; omega), if_pos (show ({ x with m := mv, steps := x.steps + 1 } : Core).phase = 1 from q)]
      dsimp only
      rw [hu]
      unfold scanC
      dsimp only
      obtain ⟨U1, hU1⟩ : ∃ U1, bitm.markU x.used u = U1 := ⟨_, rfl⟩
      rw [hU1] at hm1
      simp only [hU1]
      split
      · have hm2 := hm1.mark (s := x.a) ha.1
        have hf := hm2.free
        refine ⟨⟨hw, hrl, ha, by simp only []; omega, hrd, hba, hsz, fun _ _ h9 => by simp at h9, fun _ => by simp [o]; omega, .inl ⟨o, by simp, fun _ => r⟩⟩, ?_, rfl, rfl, rfl, rfl⟩
        rw [hl, if_neg (by omega), if_pos q]
        simp [left, ho, o] <;> omega
      · refine ⟨⟨hw, hrl, ha, hb, hrd, hba, hsz, fun _ _ _ => by
          simp only [q, if_true]
          rw [show (x.i.toNat : Int) + 1 = x.i + 1 by omega]; exact hm1, fun _ => by simp [o, q]; omega, .inl ⟨o, by simp [q], fun _ => r⟩⟩, ?_, rfl, rfl, rfl, rfl⟩
        rw [hl, if_neg (by omega), if_pos q]
        simp [left, ho, o, q] <;> omega
    · rw [if_neg (by omega)] at hi
      unfold stepW
      rw [if_neg (show ¬ ({ x with m := mv, steps := x.steps + 1 } : Core).phase = 0 by show ¬ x.phase = 0; omega), if_neg (show ¬ ({ x with m := mv, steps := x.steps + 1 } : Core).phase = 1 by show ¬ x.phase = 1; omega), if_pos (show ({ x with m := mv, steps := x.steps + 1 } : Core).phase = 2 from q)]
      dsimp only
      split
      · refine ⟨⟨hw, hrl, ha, hb, hrd, hba, hsz, fun _ _ h9 => by simp at h9, fun _ => by simp [o]; omega, .inl ⟨o, by simp, fun _ => r⟩⟩, ?_, rfl, rfl, rfl, rfl⟩
        rw [hl, if_neg (by omega), if_neg (by omega), if_pos q]
        simp [left, ho, o] <;> omega
      · refine ⟨⟨hw, hrl, ha, hb, hrd, hba, hsz, fun _ _ h9 => by simp [q] at h9, fun _ => by simp [o, q]; omega, .inl ⟨o, by simp [q], fun _ => r⟩⟩, ?_, rfl, rfl, rfl, rfl⟩
        rw [hl, if_neg (by omega), if_neg (by omega), if_pos q]
        simp [left, ho, o, q] <;> omega
    · rw [if_neg (by omega)] at hi
      unfold stepW
      rw [if_neg (show ¬ ({ x with m := mv, steps := x.steps + 1 } : Core).phase = 0 by show ¬ x.phase = 0; omega), if_neg (show ¬ ({ x with m := mv, steps := x.steps + 1 } : Core).phase = 1 by show ¬ x.phase = 1; omega), if_neg (show ¬ ({ x with m := mv, steps := x.steps + 1 } : Core).phase = 2 by show ¬ x.phase = 2; omega), if_pos (show ({ x with m := mv, steps := x.steps + 1 } : Core).phase = 3 from q)]
      dsimp only
      refine ⟨⟨hw, hrl, ha, hb, hrd, hba, hsz, fun _ _ h9 => by simp at h9, fun _ => by simp [o]; omega, .inl ⟨o, by simp, fun _ => r⟩⟩, ?_, rfl, rfl, rfl, rfl⟩
      rw [hl, if_neg (by omega), if_neg (by omega), if_neg (by omega), if_pos q]
      simp [left, ho, o] <;> omega
    · rw [if_pos ⟨o, .inr q⟩] at hi
      unfold stepW
      rw [if_neg (show ¬ ({ x with m := mv, steps := x.steps + 1 } : Core).phase = 0 by show ¬ x.phase = 0; omega), if_neg (show ¬ ({ x with m := mv, steps := x.steps + 1 } : Core).phase = 1 by show ¬ x.phase = 1; omega), if_neg (show ¬ ({ x with m := mv, steps := x.steps + 1 } : Core).phase = 2 by show ¬ x.phase = 2; omega), if_neg (show ¬ ({ x with m := mv, steps := x.steps + 1 } : Core).phase = 3 by show ¬ x.phase = 3; omega)]
      dsimp only
      split
      · refine ⟨⟨hw, hrl, ha, hb, hrd, hba, hsz, fun h9 => by simp at h9, fun h9 => by simp at h9, .inl ⟨o, by simp [q], fun h9 => by simp at h9⟩⟩, ?_, rfl, rfl, rfl, rfl⟩
        rw [hl, if_neg (by omega), if_neg (by omega), if_neg (by omega), if_neg (by omega)]
        simp [left] <;> omega
      · refine ⟨⟨hw, hrl, ha, hb, hrd, hba, hsz, fun _ _ h9 => by simp [q] at h9, fun _ => by simp [o, q]; omega, .inl ⟨o, by simp [q], fun _ => r⟩⟩, ?_, rfl, rfl, rfl, rfl⟩
        rw [hl, if_neg (by omega), if_neg (by omega), if_neg (by omega), if_neg (by omega)]
        simp [left, ho, o, q] <;> omega
  · have r := r ho
    rw [if_neg (by omega)] at hi
    have hst : step x mv rec ws = stepR { x with m := mv, steps := x.steps + 1 } rec ws := by unfold step; rw [if_neg (by omega)]
    rw [hst]
    have hl : left x = (if x.phase = 0 then x.w + 4 else if x.phase = 1 then x.w + 3 else if x.phase = 2 then x.w + 2 else if x.phase = 3 then x.w + 1 else x.w - x.i) := by unfold left; rw [if_neg (by simp [ho]), if_neg (by omega)]
    have hnm : ∀ (y : Core), y.op = x.op → y.over = false → y.op = 2 → y.phase ≤ 1 → bitm.Marks y.used (if y.phase = 1 then y.i else 0) := fun y h1 _ h2 => by rw [h1, o] at h2; omega
    rcases (by omega : x.phase = 0 ∨ x.phase = 1 ∨ x.phase = 2 ∨ x.phase = 3 ∨ x.phase = 4) with q | q | q | q | q
    · unfold stepR
      rw [if_pos (show ({ x with m := mv, steps := x.steps + 1 } : Core).phase = 0 from q)]
      dsimp only
      refine ⟨⟨hw, hrl, ha, hb, hrd, hba, hsz, hnm _ rfl, fun _ => by simp [o]; omega, .inr ⟨o, by simp, fun _ => by simp [q] at r ⊢; exact r⟩⟩, ?_, rfl, rfl, rfl, rfl⟩
      rw [hl, if_pos q]
      simp [left, ho, o] <;> omega
    · unfold stepR
      rw [if_neg (show ¬ ({ x with m := mv, steps := x.steps + 1 } : Core).phase = 0 by show ¬ x.phase = 0; omega), if_pos (show ({ x with m := mv, steps := x.steps + 1 } : Core).phase = 1 from q)]
      dsimp only
      refine ⟨⟨hw, hrl, g0 _, hb, hrd, hba, hsz, hnm _ rfl, fun _ => by simp [o]; omega, .inr ⟨o, by simp, fun _ => by simp [q] at r ⊢; exact r⟩⟩, ?_, rfl, rfl, rfl, rfl⟩
      rw [hl, if_neg (by omega), if_pos q]
      simp [left, ho, o] <;> omega
    · unfold stepR
      rw [if_neg (show ¬ ({ x with m := mv, steps := x.steps + 1 } : Core).phase = 0 by show ¬ x.phase = 0; omega), if_neg (show ¬ ({ x with m := mv, steps := x.steps + 1 } : Core).phase = 1 by show ¬ x.phase = 1; omega), if_pos (show ({ x with m := mv, steps := x.steps + 1 } : Core).phase = 2 from q)]
      dsimp only
      refine ⟨⟨hw, hrl, ha, hb, hrd, hba, hsz, hnm _ rfl, fun _ => by simp [o]; omega, .inr ⟨o, by simp, fun _ => by simp [q] at r ⊢; exact r⟩⟩, ?_, rfl, rfl, rfl, rfl⟩
      rw [hl, if_neg (by omega), if_neg (by omega), if_pos q]
      simp [left, ho, o] <;> omega
    · unfold stepR
      rw [if_neg (show ¬ ({ x with m := mv, steps := x.steps + 1 } : Core).phase = 0 by show ¬ x.phase = 0; omega), if_neg (show ¬ ({ x with m := mv, steps := x.steps + 1 } : Core).phase = 1 by show ¬ x.phase = 1; omega), if_neg (show ¬ ({ x with m := mv, steps := x.steps + 1 } : Core).phase = 2 by show ¬ x.phase = 2; omega), if_pos (show ({ x with m := mv, steps := x.steps + 1 } : Core).phase = 3 from q)]
      dsimp only
      refine ⟨⟨hw, hrl, ha, by simp only []; exact mod_bd (by omega), hrd, hba, hsz, hnm _ rfl, fun _ => by simp [o]; omega, .inr ⟨o, by simp, fun _ => by simp [q] at r ⊢; exact r⟩⟩, ?_, rfl, rfl, rfl, rfl⟩
      rw [hl, if_neg (by omega), if_neg (by omega), if_neg (by omega), if_pos q]
      simp [left, ho, o] <;> omega
    · unfold stepR
      rw [if_neg (show ¬ ({ x with m := mv, steps := x.steps + 1 } : Core).phase = 0 by show ¬ x.phase = 0; omega), if_neg (show ¬ ({ x with m := mv, steps := x.steps + 1 } : Core).phase = 1 by show ¬ x.phase = 1; omega), if_neg (show ¬ ({ x with m := mv, steps := x.steps + 1 } : Core).phase = 2 by show ¬ x.phase = 2; omega), if_neg (show ¬ ({ x with m := mv, steps := x.steps + 1 } : Core).phase = 3 by show ¬ x.phase = 3; omega)]
      dsimp only
      rw [if_pos q] at r
      split
      · refine ⟨⟨hw, hrl, ha, hb, hrd, hba, hsz, fun h9 => by simp at h9, fun h9 => by simp at h9, .inr ⟨o, by simp [q], fun h9 => by simp at h9⟩⟩, ?_, rfl, rfl, rfl, rfl⟩
        rw [hl, if_neg (by omega), if_neg (by omega), if_neg (by omega), if_neg (by omega)]
        simp [left] <;> omega
      · refine ⟨⟨hw, hrl, ha, hb, hrd, hba, hsz, hnm _ rfl, fun _ => by simp [o, q]; omega, .inr ⟨o, by simp [q], fun _ => by simp [q]; omega⟩⟩, ?_, rfl, rfl, rfl, rfl⟩
        rw [hl, if_neg (by omega), if_neg (by omega), if_neg (by omega), if_neg (by omega)]
        simp [left, ho, o, q] <;> omega
def K : Kind where
  step := step
  Shape := Shape
  left := left
  ok mv h ho hws := step_ok mv h ho hws
  len := step_len
  pos := left_pos
  zero := left_over
theorem free : K.Free where
  free x a mv rec ws := rfl
  relabel x mv mv' rec ws := by
    show step x mv' rec ws = ({ (step x mv rec ws).1 with m := mv' }, (step x mv rec ws).2.1, (step x mv rec ws).2.2)
    simp only [step, stepW, stepR, scanC, place]
    (repeat' split) <;> rfl
end Go.Proofs.YtapaolaemkhbdaaDoor.chen
