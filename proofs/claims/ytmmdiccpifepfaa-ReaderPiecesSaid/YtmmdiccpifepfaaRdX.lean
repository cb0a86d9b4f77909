/- Reader: the reference's told: any reply. Printed by gen_rdx.py. -/
import Derived.Test.YtmmdiccpifepfaaRdV
import Derived.Test.YtmmdiccpifepfaaRdW
import Derived.Test.YtmmdiccpifepfaaRdW1
import Derived.Test.YtmmdiccpifepfaaRdW2
import Derived.Test.YtmmdiccpifepfaaRdW3
namespace Go.Proofs.Ytmmdiccpifepfaa
open Go.RowKit
set_option linter.unusedVariables false
namespace Rd
open Ans Digit Sls Word
theorem told_any (s : Str) (w : World) (A : Nat → Prop) (x : X) (c : Array Value) (h : RB w A x c) (hs : s.length ≤ 900000) (hf : Fit 900000 x) :
    Calls Try.prog 20 #[.agg c, .string ⟨s.toArray⟩] w (ToldP w A (replyR x s)) := by
  by_cases hb : (readA s).2.2 = 0 ∧ (readA s).2.1 = s.length
  · have hv : x.V = [] ∨ (∃ U n t, x.V = U ++ [(n, t, false)]) ∨ ∃ U n t, x.V = U ++ [(n, t, true)] := by
      cases ho : opn x.V with
      | none => exact (opn_none ho).imp id .inl
      | some q => obtain ⟨U, hU⟩ := opn_some (show opn x.V = some (q.1, q.2) from ho); exact .inr (.inr ⟨U, _, _, hU⟩)
    by_cases h0 : (readA s).1.1 = 310
    · rcases hv with ho | ⟨U, n, t, ho⟩ | ⟨U, n, t, ho⟩
      · exact told310n s w A x c h hs hf hb h0 ho
      · exact told310h s w A x c h hs hf hb h0 U n t ho
      · by_cases hn : n = lastR (readA s).1
        · exact told310e s w A x c h hs hf hb h0 U n t ho hn
        · exact told310o s w A x c h hs hf hb h0 U n t ho hn
    by_cases h1 : (readA s).1.1 = 311
    · rcases hv with ho | ⟨U, n, t, ho⟩ | ⟨U, n, t, ho⟩
      · exact told311n s w A x c h hs hf hb h1 ho
      · exact told311h s w A x c h hs hf hb h1 U n t ho
      · by_cases hn : n = lastR (readA s).1
        · exact told311e s w A x c h hs hf hb h1 U n t ho hn
        · exact told311o s w A x c h hs hf hb h1 U n t ho hn
    by_cases h2 : (readA s).1.1 = 312
    · rcases hv with ho | ⟨U, n, t, ho⟩ | ⟨U, n, t, ho⟩
      · exact told312n s w A x c h hs hf hb h2 ho
      · exact told312h s w A x c h hs hf hb h2 U n t ho
      · by_cases hn : n = lastR (readA s).1
        · exact told312e s w A x c h hs hf hb h2 U n t ho hn
        · exact told312o s w A x c h hs hf hb h2 U n t ho hn
    by_cases h3 : (readA s).1.1 = 313
    · rcases hv with ho | ⟨U, n, t, ho⟩ | ⟨U, n, t, ho⟩
      · exact told313n s w A x c h hs hf hb h3 ho
      · exact told313h s w A x c h hs hf hb h3 U n t ho
      · by_cases hn : n = lastR (readA s).1
        · exact told313e s w A x c h hs hf hb h3 U n t ho hn
        · exact told313o s w A x c h hs hf hb h3 U n t ho hn
    by_cases h4 : (readA s).1.1 = 460
    · rcases hv with ho | ⟨U, n, t, ho⟩ | ⟨U, n, t, ho⟩
      · exact told460n s w A x c h hs hf hb h4 ho
      · exact told460h s w A x c h hs hf hb h4 U n t ho
      · exact told460o s w A x c h hs hf hb h4 U n t ho
    rcases hv with ho | ⟨U, n, t, ho⟩ | ⟨U, n, t, ho⟩
    · exact toldxn s w A x c h hs hf hb ⟨h0, h1, h2, h3, h4⟩ ho
    · exact toldxh s w A x c h hs hf hb ⟨h0, h1, h2, h3, h4⟩ U n t ho
    · exact toldxo s w A x c h hs hf hb ⟨h0, h1, h2, h3, h4⟩ U n t ho
  · exact told_bad s w A x c h hs hf hb
end Rd
end Go.Proofs.Ytmmdiccpifepfaa
