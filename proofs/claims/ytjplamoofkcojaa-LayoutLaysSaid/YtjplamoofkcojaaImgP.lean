/- Images: the plain law: systems as bytes, bytes as systems. -/
import Derived.Test.YtjplamoofkcojaaCodecW5
namespace Go.Proofs.Ytjplamoofkcojaa.img
open Go Go.Proofs.Ytjplamoofkcojaa.codec
set_option linter.unusedVariables false
set_option linter.unusedSimpArgs false

structure Ins where
  op : Int
  a : Int
  b : Int
  c : Int
  n : Int
structure PTk where
  kind : Int
  prio : Int
  period : Int
  offset : Int
  deadline : Int
  own : Int
  code : List Ins
structure POb where
  k : Int
  w : Int
  s : Int
  c : Int
  st : Int
  wr : Int
  ini : List Int
  rds : List Int
def fit1 (x : Int) : Prop := 0 ≤ x ∧ x ≤ 255
def fit4 (x : Int) : Prop := 0 ≤ x ∧ x ≤ 4294967295
instance (x : Int) : Decidable (fit1 x) := by unfold fit1; infer_instance
instance (x : Int) : Decidable (fit4 x) := by unfold fit4; infer_instance
def Ins.fit (i : Ins) : Prop := fit1 i.op ∧ fit1 i.a ∧ fit1 i.b ∧ fit1 i.c
instance (i : Ins) : Decidable i.fit := by unfold Ins.fit; infer_instance
def PTk.fit (t : PTk) : Prop := (fit1 t.kind ∧ fit1 t.prio ∧ fit1 t.own ∧ fit1 (t.code.length : Int)) ∧ (fit4 t.period ∧ fit4 t.offset ∧ fit4 t.deadline) ∧ ∀ i ∈ t.code, i.fit
instance (t : PTk) : Decidable t.fit := by unfold PTk.fit; infer_instance
def POb.fit (o : POb) : Prop := (fit1 o.k ∧ fit1 o.w ∧ fit1 o.s ∧ fit1 o.c ∧ fit1 o.wr ∧ fit1 (o.rds.length : Int) ∧ fit1 (o.ini.length : Int)) ∧ ∀ r ∈ o.rds, fit1 r
instance (o : POb) : Decidable o.fit := by unfold POb.fit; infer_instance
/-- have all numbers room -/
def fitS (ts : List PTk) (os : List POb) : Prop := (fit1 (ts.length : Int) ∧ fit1 (os.length : Int)) ∧ (∀ t ∈ ts, t.fit) ∧ ∀ o ∈ os, o.fit
instance (ts : List PTk) (os : List POb) : Decidable (fitS ts os) := by unfold fitS; infer_instance
/-- words that lie in memory are words -/
def PTk.W (t : PTk) : Prop := ∀ i ∈ t.code, fit4 i.n
def POb.W (o : POb) : Prop := fit4 o.st ∧ ∀ w ∈ o.ini, fit4 w
def encI (i : Ins) : List Int := leB i.op 1 ++ (leB i.a 1 ++ (leB i.b 1 ++ (leB i.c 1 ++ leB i.n 4)))
def encC (l : List Ins) : List Int := l.flatMap encI
def enc1 (l : List Int) : List Int := l.flatMap (fun x => leB x 1)
def enc4 (l : List Int) : List Int := l.flatMap (fun x => leB x 4)
def encT (t : PTk) : List Int := leB t.kind 1 ++ (leB t.prio 1 ++ (leB t.period 4 ++ (leB t.offset 4 ++ (leB t.deadline 4 ++ (leB t.own 1 ++ (leB t.code.length 1 ++ encC t.code))))))
def encO (o : POb) : List Int := leB o.k 1 ++ (leB o.w 1 ++ (leB o.s 1 ++ (leB o.c 1 ++ (leB o.st 4 ++ (leB o.wr 1 ++ (leB o.rds.length 1 ++ (enc1 o.rds ++ (leB o.ini.length 1 ++ enc4 o.ini))))))))
def bodyB (ts : List PTk) (os : List POb) : List Int := leB 67 1 ++ (leB 88 1 ++ (leB 1 1 ++ (leB ts.length 1 ++ (leB os.length 1 ++ (ts.flatMap encT ++ os.flatMap encO)))))
def sumB : List Int → Int
  | [] => 0
  | x :: r => x + sumB r
def sumM (l : List Int) : Int := sumB l % 65536
def image (ts : List PTk) (os : List POb) : List Int := bodyB ts os ++ leB (sumM (bodyB ts os)) 2
/-- has a system an image -/
def hasI (ts : List PTk) (os : List POb) : Bool := decide (fitS ts os) && decide ((image ts os).length ≤ 65536)
def imageOf (ts : List PTk) (os : List POb) : List Int := if hasI ts os then image ts os else []

theorem sumB_append (a b : List Int) : sumB (a ++ b) = sumB a + sumB b := by
  induction a with
  | nil => simp [sumB]
  | cons x r ih => simp [sumB, ih]; omega
theorem sumM_bd (l : List Int) : 0 ≤ sumM l ∧ sumM l < 65536 := by unfold sumM; omega

theorem leB_more (W x : Int) (m : Nat) : ∀ n, n ≤ m → leB (W + x * 256 ^ m) n = leB W n := by
  intro n
  induction n with
  | zero => intro _; rfl
  | succ k ih =>
    intro hk
    have hp : (256 : Int) ^ m = 256 ^ k * (256 * 256 ^ (m - k - 1)) := by
      rw [← Int.mul_assoc, ← Int.pow_succ, ← Int.pow_add]; congr 1; omega
    have hd : (W + x * 256 ^ m) / 256 ^ k = W / 256 ^ k + 256 * (x * 256 ^ (m - k - 1)) := by
      rw [hp, show x * (256 ^ k * (256 * 256 ^ (m - k - 1))) = 256 ^ k * (256 * (x * 256 ^ (m - k - 1))) by
        rw [Int.mul_left_comm, Int.mul_left_comm x]]
      exact Int.add_mul_ediv_left _ _ (by have : (0 : Int) < 256 ^ k := Int.pow_pos (by decide); omega)
    rw [leB, leB, ih (by omega), hd]
    congr 2
    omega
theorem leB_numL (l : List Int) (h : ∀ x ∈ l, 0 ≤ x ∧ x ≤ 255) : leB (numL l) l.length = l := by
  induction hn : l.length generalizing l with
  | zero => rw [List.eq_nil_of_length_eq_zero hn]; rfl
  | succ n ih =>
    obtain ⟨r, x, rfl⟩ : ∃ r x, l = r ++ [x] := ⟨l.dropLast, l.getLast (by intro e; rw [e] at hn; simp at hn), (List.dropLast_concat_getLast _).symm⟩
    have hrl : r.length = n := by simpa using hn
    have hr := ih r (fun y hy => h y (by simp [hy])) hrl
    have hb := numL_bd r (fun y hy => by have := h y (by simp [hy]); simp [Lit.wf, IntKind.min, IntKind.max, IntKind.signed, IntKind.bits]; omega)
    have hx := h x (by simp)
    rw [numL_snoc, hrl, leB, leB_more _ _ n n (Nat.le_refl _), hr]
    have hp : (0 : Int) < 256 ^ n := Int.pow_pos (by decide)
    rw [hrl] at hb
    congr 2
    rw [Int.add_mul_ediv_right _ _ (by omega), Int.ediv_eq_zero_of_lt hb.1 hb.2]
    omega

/-- a reader: where it stands; has it found too few -/
structure St where
  at_ : Nat
  bad : Bool
def rdV (zs : List Int) (n : Nat) (s : St) : Int := if s.bad = true ∨ zs.length < s.at_ + n then 0 else numL ((zs.drop s.at_).take n)
def rdS (zs : List Int) (n : Nat) (s : St) : St := if s.bad then s else if zs.length < s.at_ + n then ⟨s.at_, true⟩ else ⟨s.at_ + n, false⟩
def insV (zs : List Int) (s : St) : Ins := ⟨rdV zs 1 s, rdV zs 1 (rdS zs 1 s), rdV zs 1 (rdS zs 1 (rdS zs 1 s)), rdV zs 1 (rdS zs 1 (rdS zs 1 (rdS zs 1 s))), rdV zs 4 (rdS zs 1 (rdS zs 1 (rdS zs 1 (rdS zs 1 s))))⟩
def insS (zs : List Int) (s : St) : St := rdS zs 4 (rdS zs 1 (rdS zs 1 (rdS zs 1 (rdS zs 1 s))))
/-- a row of what f reads, g leaves; it breaks off where too few are found -/
def rowV {R : Type} (f : St → R) (g : St → St) : Nat → St → List R
  | 0, _ => []
  | n + 1, s => if s.bad then [] else f s :: rowV f g n (g s)
def rowS (g : St → St) : Nat → St → St
  | 0, s => s
  | n + 1, s => if s.bad then s else rowS g n (g s)
/-- the like, without breaking off -/
def allV {R : Type} (f : St → R) (g : St → St) : Nat → St → List R
  | 0, _ => []
  | n + 1, s => f s :: allV f g n (g s)
def allS (g : St → St) : Nat → St → St
  | 0, s => s
  | n + 1, s => allS g n (g s)
def Good (zs : List Int) (s : St) : Prop := s.bad = false ∧ s.at_ ≤ zs.length
/-- it stands ahead of l -/
def At (zs : List Int) (s : St) (l : List Int) : Prop := s.bad = false ∧ zs.drop s.at_ = l ∧ s.at_ ≤ zs.length
def hd7 (zs : List Int) (s : St) : St := rdS zs 1 (rdS zs 1 (rdS zs 4 (rdS zs 4 (rdS zs 4 (rdS zs 1 (rdS zs 1 s))))))
def tkV (zs : List Int) (s : St) : PTk :=
  ⟨rdV zs 1 s, rdV zs 1 (rdS zs 1 s), rdV zs 4 (rdS zs 1 (rdS zs 1 s)), rdV zs 4 (rdS zs 4 (rdS zs 1 (rdS zs 1 s))), rdV zs 4 (rdS zs 4 (rdS zs 4 (rdS zs 1 (rdS zs 1 s)))),
   rdV zs 1 (rdS zs 4 (rdS zs 4 (rdS zs 4 (rdS zs 1 (rdS zs 1 s))))),
   rowV (insV zs) (insS zs) (rdV zs 1 (rdS zs 1 (rdS zs 4 (rdS zs 4 (rdS zs 4 (rdS zs 1 (rdS zs 1 s))))))).toNat (hd7 zs s)⟩
def tkS (zs : List Int) (s : St) : St := rowS (insS zs) (rdV zs 1 (rdS zs 1 (rdS zs 4 (rdS zs 4 (rdS zs 4 (rdS zs 1 (rdS zs 1 s))))))).toNat (hd7 zs s)

section
variable {zs : List Int}
theorem rd_ok {s : St} {x : Int} {n : Nat} {post : List Int} (h : At zs s (leB x n ++ post)) (h0 : 0 ≤ x) (h1 : x < 256 ^ n) : rdV zs n s = x ∧ At zs (rdS zs n s) post := by
  obtain ⟨hb, hd, hl⟩ := h
  have hlen : zs.length - s.at_ = n + post.length := by
    have := congrArg List.length hd
    rw [List.length_drop, List.length_append, leB_length] at this
    exact this
  have hn : ¬ zs.length < s.at_ + n := by omega
  refine ⟨?_, ?_⟩
  · unfold rdV
    rw [if_neg (by rw [hb]; simp; omega), hd, List.take_left' (leB_length x n), numL_leB, Int.emod_eq_of_lt h0 h1]
  · unfold rdS
    rw [hb, if_neg (by decide), if_neg hn]
    refine ⟨rfl, ?_, by show s.at_ + n ≤ _; omega⟩
    show zs.drop (s.at_ + n) = post
    rw [← List.drop_drop, hd, List.drop_left' (leB_length x n)]
variable (hz : ∀ x ∈ zs, 0 ≤ x ∧ x ≤ 255)
include hz
theorem rd_inv {s : St} {n : Nat} (h : Good zs (rdS zs n s)) : Good zs s ∧ zs.drop s.at_ = leB (rdV zs n s) n ++ zs.drop (rdS zs n s).at_ ∧ 0 ≤ rdV zs n s ∧ rdV zs n s < 256 ^ n := by
  obtain ⟨hb, hl⟩ := h
  unfold rdS at hb hl ⊢
  cases hs : s.bad
  · simp only [hs, Bool.false_eq_true, if_false] at hb hl ⊢
    by_cases hn : zs.length < s.at_ + n
    · rw [if_pos hn] at hb; simp at hb
    · rw [if_neg hn] at hb hl ⊢
      dsimp only at hl ⊢
      have hlen : ((zs.drop s.at_).take n).length = n := by rw [List.length_take, List.length_drop]; omega
      have hby : ∀ x ∈ (zs.drop s.at_).take n, 0 ≤ x ∧ x ≤ 255 := fun x hx => hz x (List.mem_of_mem_drop (List.mem_of_mem_take hx))
      have hv : rdV zs n s = numL ((zs.drop s.at_).take n) := by unfold rdV; rw [if_neg (by rw [hs]; simp; omega)]
      have hbd := numL_bd _ (fun y hy => by have := hby y hy; simp [Lit.wf, IntKind.min, IntKind.max, IntKind.signed, IntKind.bits]; omega : ∀ x ∈ (zs.drop s.at_).take n, (Lit.int .u8 x).wf = true)
      rw [hlen] at hbd
      have h2 := leB_numL _ hby
      rw [hlen] at h2
      refine ⟨⟨hs, by omega⟩, ?_, by rw [hv]; exact hbd.1, by rw [hv]; exact hbd.2⟩
      rw [hv, h2, ← List.drop_drop, List.take_append_drop]
  · simp only [hs, if_true] at hb
    simp at hb
end
end Go.Proofs.Ytjplamoofkcojaa.img
