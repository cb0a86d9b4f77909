/- A region's head that draws its order and only reads, walked by the quiet walk. -/
import Derived.StillTailTactics
import Derived.BigQuiet
import Derived.Test.YtmmdiccpifepfaaLaw
namespace Go.Proofs.Ytmmdiccpifepfaa
open Go.RowKit
section
variable {P : Program} {ops : Array Oper} {w : World} {Q K : Act → Prop} {a : Act} {o : Oper}
theorem still_of_quiet {v : Value} (h : o.quietAt P a (fun w' => w' = w) w v) (hk : K (a.put o.dst v)) : o.still P a w K := by
  unfold Oper.quietAt at h
  unfold Oper.still
  generalize (execOp a.eval o).run P w = r at *
  cases r with
  | ok n w' =>
    cases n <;> simp only [Oper.quietUpon] at h <;> simp only [Oper.stillUpon]
    case value u => obtain ⟨rfl, rfl⟩ := h; exact ⟨rfl, hk⟩
    case skip => obtain ⟨rfl, rfl⟩ := h; exact ⟨rfl, hk⟩
    case enter f args => obtain ⟨rfl, hc⟩ := h; exact ⟨rfl, v, hc, hk⟩
    all_goals exact h.elim
  | halt x w' => simp only [Oper.quietUpon] at h
theorem wpStill_of_quiet : ∀ (l : List Oper) (a : Act), wpQuiet P ops (fun w' => w' = w) Q l a → wpStill P ops w Q l a
  | [], _, h => h
  | o :: l, a, h => by
    unfold wpQuiet at h
    unfold wpStill
    by_cases hw : Region.wanted o (yielded ops a.tmps) = true
    · rw [if_pos hw] at h ⊢
      obtain ⟨v, h1, h2⟩ := h
      exact still_of_quiet (h1 w rfl) (by
        have := wpStill_of_quiet l (a.put o.dst v) h2
        exact this)
    · rw [if_neg hw] at h ⊢
      exact wpStill_of_quiet l _ h
end
theorem Fr.then_below {F : Nat → Prop} {w w1 w2 : World} (h : Fr F w w1) (k : Below w.heap.size w1 w2) : Fr F w w2 :=
  ⟨k.os.trans h.os, k.tape.trans h.tape, k.output.trans h.output, Nat.le_trans h.size k.size, fun b hb hn => (k.block b hb).trans (h.block b hb hn)⟩
end Go.Proofs.Ytmmdiccpifepfaa
