/- The kernel: how many events a tick has. -/
import Derived.Test.YtfkokbeloenfdaaDoorKrnZ
namespace Go.Proofs.YtfkokbeloenfdaaDoor.krn
set_option linter.unusedVariables false
set_option linter.unusedSimpArgs false
theorem lateF_len (t : Int) : ∀ (l : List Nat) (p : Led × List Nat), (l.foldl (lateF t) p).2.length ≤ p.2.length + l.length
  | [], p => by simp
  | i :: l, p => by
    rw [List.foldl_cons]
    have h1 := lateF_len t l (lateF t p i)
    have h2 : (lateF t p i).2.length ≤ p.2.length + 1 := by
      unfold lateF
      split
      · simp
      · exact Nat.le_succ _
    simp only [List.length_cons]
    omega
theorem dueF_len : ∀ (l : List Du) (p : Kn × List Ev), (l.foldl dueF p).2.length = p.2.length + l.length
  | [], p => rfl
  | d :: l, p => by
    rw [List.foldl_cons, dueF_len l]
    simp only [dueF, List.length_append, List.length_cons, List.length_nil]
    omega
theorem askF_len : ∀ (l : List Int) (p : Kn × List Ev), (l.foldl askF p).2.length = p.2.length + l.length
  | [], p => rfl
  | a :: l, p => by
    rw [List.foldl_cons, askF_len l]
    have h2 : (askF p a).2.length = p.2.length + 1 := by
      unfold askF
      split <;> simp
    rw [h2, List.length_cons]
    omega
theorem openM_len {k : Kn} {n : Nat} (h : KOK k n) (asks : List Int) : (openM k asks).2.length ≤ 264 + asks.length := by
  unfold openM
  rw [askF_len, dueF_len]
  have h1 : ((bitsM k.led.act).foldl (lateF k.now) (k.led, [])).2.length ≤ (bitsM k.led.act).length := by
    have := lateF_len k.now (bitsM k.led.act) (k.led, [])
    simpa using this
  have h2 := bitsM_le k.led.act
  have h3 := h.led.act
  have h4 := untilM_len k.now k.due.length k.due (Nat.le_refl _)
  have h5 := h.dl
  have h6 := h.led.llen
  rw [h.ll] at h6
  have h7 : (openA k).2.length = ((bitsM k.led.act).foldl (lateF k.now) (k.led, [])).2.length := by
    unfold openA lateM
    simp
  show (openA k).2.length + _ + _ ≤ _
  omega
theorem closeM_len (k : Kn) (at_ : Int) (ended : Bool) : (closeM k at_ ended).2.length ≤ 2 := by
  unfold closeM
  split
  · unfold stepK
    split <;> simp
  · simp
end Go.Proofs.YtfkokbeloenfdaaDoor.krn
