/- Package line, in plain terms: what befalls a line. No program in sight. -/
import Derived.Test.YtnfkkonmhinlcaaRunAt
import Derived.Test.YtnfkkonmhinlcaaRunNexts
import Derived.Test.YtnfkkonmhinlcaaBackoff
namespace Go.Proofs.Ytnfkkonmhinlcaa
open Go.RowKit
set_option linter.unusedVariables false
set_option linter.unusedSimpArgs false
namespace Ln
open Run (O timesR endsR dueT nextT chk chkR Fit)
/-- A line: its rule, its state, failures, until when is waited, what is sent first; the sequence, when that began, up to when it was done; what waits. -/
structure S where
  b : Int
  c : Int
  j : Int
  st : Int
  n : Int
  at_ : Int
  first : List O
  seq : List O
  start : Int
  was : Int
  held : Str
abbrev U := Int × Str
def outO (x : O) : U := if x.1 = 3 then (4, []) else (3, x.2.1)
def busy (s : S) : Bool := decide (s.st = 3 ∨ s.st = 5)
def seqNext (s : S) : Int × Bool := nextT s.was (endsR s.start s.seq) (timesR s.start s.seq)
def nextS (s : S) : Int × Bool := if s.st = 1 then (s.at_, true) else if busy s = true then seqNext s else (0, false)
def waitS (s : S) (now r : Int) : Int := now + (Backoff.lowOf s.b s.c s.n.toNat + r % (s.j + 1))
def failedS (s : S) (now r : Int) : S := { s with n := s.n + 1, at_ := waitS s now r, st := 1, seq := [], held := [] }
def dueS (s : S) (now : Int) : List U := (dueT s.was now (timesR s.start s.seq)).map outO
def tailS (s : S) : List U := if s.held = [] then [] else [(3, s.held)]
def overS (s : S) (now : Int) : Bool := decide (endsR s.start s.seq ≤ now)
def goOnS (s : S) (now : Int) : S × List U :=
  if overS s now = true then ({ s with was := now, st := 4, seq := [], held := [] }, dueS s now ++ tailS s) else ({ s with was := now }, dueS s now)
def lateI (now : Int) : Bool := decide (now < 0 ∨ 549755813888 < now)
theorem late_no {now : Int} (h : lateI now = false) : 0 ≤ now ∧ now ≤ 549755813888 := by
  have := of_decide_eq_false h
  omega
def startS (s : S) : S × List U := if s.st = 0 then ({ s with n := 0, st := 2 }, [(1, [])]) else (s, [])
def offS (s : S) : S := { s with st := 0, seq := [], held := [] }
def stopS (s : S) : S × List U := if s.st = 0 then (s, []) else (offS s, if s.st = 1 then [] else [(2, [])])
def beginS (s : S) (st : Int) (l : List O) (now : Int) : S := { s with st := st, seq := l, start := now, was := now - 1 }
def openedS (s : S) (now : Int) (ok : Bool) (r : Int) : S × List U :=
  if s.st ≠ 2 ∨ lateI now = true then (s, []) else if ok = false then (failedS s now r, []) else goOnS (beginS { s with n := 0 } 3 s.first now) now
def lostS (s : S) (now r : Int) : S × Bool := if s.st < 3 ∨ lateI now = true then (s, false) else (failedS s now r, true)
def tickS (s : S) (now : Int) : S × List U :=
  if (nextS s).2 = false ∨ now < (nextS s).1 ∨ lateI now = true then (s, []) else if s.st = 1 then ({ s with st := 2 }, [(1, [])]) else goOnS s now
def sendS (s : S) (t : Str) : S × List U × Bool :=
  if s.st = 4 then (s, if t = [] then [] else [(3, t)], true) else if busy s = false ∨ 4096 < s.held.length + t.length then (s, [], false) else ({ s with held := s.held ++ t }, [], true)
def breakS (s : S) (now : Int) (l : List O) : S × List U × Int :=
  if s.st ≠ 4 then (s, [], 9) else if lateI now = true then (s, [], 1) else if chk now l ≠ 0 then (s, [], chk now l) else
    let g := goOnS (beginS s 5 l now) now
    (g.1, g.2, 0)
/-- What holds of every line at a time: nothing was done later. -/
structure Ok (s : S) (k : Int) : Prop where
  rule : Backoff.ok s.b s.c s.j = true
  n0 : 0 ≤ s.n ∧ s.n ≤ k
  st : 0 ≤ s.st ∧ s.st ≤ 5
  fit : busy s = true → Fit s.seq s.start
  first : ∀ now, 0 ≤ now → now ≤ 549755813888 → Fit s.first now
  len : s.held.length ≤ 4096
  wait : s.st = 1 → 0 ≤ s.at_ ∧ s.at_ ≤ 549756000000
/-- Nothing was done later than now. -/
def By (s : S) (now : Int) : Prop := busy s = true → s.was ≤ now
theorem wait_in {s : S} {k now : Int} (h : Ok s k) (r : Int) : now + s.b ≤ waitS s now r ∧ waitS s now r ≤ now + 90000 := by
  obtain ⟨l1, l2, l3⟩ := Backoff.low_in (n := s.n) h.rule
  obtain ⟨k1, k2, k3, k4, k5, k6⟩ := Backoff.ok_iff.1 h.rule
  have m1 : 0 ≤ r % (s.j + 1) := Int.emod_nonneg _ (by omega)
  have m2 : r % (s.j + 1) < s.j + 1 := Int.emod_lt_of_pos _ (by omega)
  unfold waitS
  omega
theorem Ok.mono {s : S} {k m : Int} (h : Ok s k) (hm : k ≤ m) : Ok s m := ⟨h.rule, ⟨h.n0.1, by have := h.n0.2; omega⟩, h.st, h.fit, h.first, h.len, h.wait⟩
theorem Ok.failed {s : S} {k now : Int} (h : Ok s k) (r : Int) (hn : lateI now = false) : Ok (failedS s now r) (k + 1) := by
  obtain ⟨n1, n2⟩ := late_no hn
  obtain ⟨w1, w2⟩ := wait_in h (now := now) r
  obtain ⟨k1, k2, k3, k4, k5, k6⟩ := Backoff.ok_iff.1 h.rule
  refine ⟨h.rule, ?_, by simp [failedS], fun hb => by simp [failedS, busy] at hb, h.first, by simp [failedS], fun _ => ?_⟩
  · have := h.n0
    simp only [failedS]; omega
  · simp only [failedS]; omega
theorem Ok.goOn {s : S} {k now : Int} (h : Ok s k) : Ok (goOnS s now).1 k := by
  unfold goOnS
  split
  · exact ⟨h.rule, h.n0, by simp, fun hb => by simp [busy] at hb, h.first, by simp, fun h1 => by simp at h1⟩
  · exact ⟨h.rule, h.n0, h.st, h.fit, h.first, h.len, h.wait⟩
theorem Ok.begin {s : S} {k st now : Int} {l : List O} (h : Ok s k) (hs : st = 3 ∨ st = 5) (hl : Fit l now) : Ok (beginS s st l now) k :=
  ⟨h.rule, h.n0, by simp only [beginS]; omega, fun _ => hl, h.first, h.len, fun h1 => by simp only [beginS] at h1; omega⟩
theorem Ok.zero {s : S} {k : Int} (h : Ok s k) : Ok { s with n := 0 } k := ⟨h.rule, ⟨Int.le_refl _, by have := h.n0; simp only; omega⟩, h.st, h.fit, h.first, h.len, h.wait⟩
theorem Ok.start {s : S} {k : Int} (h : Ok s k) : Ok (startS s).1 k := by
  unfold startS
  split
  · exact ⟨h.rule, ⟨Int.le_refl _, by have := h.n0; simp only; omega⟩, by simp, fun hb => by simp [busy] at hb, h.first, h.len, fun h1 => by simp at h1⟩
  · exact h
theorem Ok.stop {s : S} {k : Int} (h : Ok s k) : Ok (stopS s).1 k := by
  unfold stopS
  split
  · exact h
  · exact ⟨h.rule, h.n0, by simp [offS], fun hb => by simp [offS, busy] at hb, h.first, by simp [offS], fun h1 => by simp [offS] at h1⟩
theorem Ok.opened {s : S} {k now : Int} (h : Ok s k) (ok : Bool) (r : Int) : Ok (openedS s now ok r).1 (k + 1) := by
  unfold openedS
  split
  · exact h.mono (by omega)
  · rename_i hc
    have hc := not_or.1 hc
    have hl : lateI now = false := by simpa using hc.2
    obtain ⟨n1, n2⟩ := late_no hl
    split
    · exact h.failed r hl
    · exact ((h.zero.begin (.inl rfl) (h.first now n1 n2)).goOn).mono (by omega)
theorem Ok.lost {s : S} {k now : Int} (h : Ok s k) (r : Int) : Ok (lostS s now r).1 (k + 1) := by
  unfold lostS
  split
  · exact h.mono (by omega)
  · rename_i hc
    exact h.failed r (by simpa using (not_or.1 hc).2)
theorem Ok.tick {s : S} {k now : Int} (h : Ok s k) : Ok (tickS s now).1 k := by
  unfold tickS
  split
  · exact h
  · split
    · exact ⟨h.rule, h.n0, by simp, fun hb => by simp [busy] at hb, h.first, h.len, fun h1 => by simp at h1⟩
    · exact h.goOn
theorem Ok.send {s : S} {k : Int} (h : Ok s k) (t : Str) : Ok (sendS s t).1 k := by
  unfold sendS
  split
  · exact h
  · split
    · exact h
    · rename_i hc
      have hc := not_or.1 hc
      exact ⟨h.rule, h.n0, h.st, h.fit, h.first, by simp; omega, h.wait⟩
theorem Ok.break_ {s : S} {k now : Int} {l : List O} (h : Ok s k) (hl : lateI now = false → chk now l = 0 → Fit l now) : Ok (breakS s now l).1 k := by
  unfold breakS
  split
  · exact h
  · split
    · exact h
    · split
      · exact h
      · rename_i h1 h2 h3
        exact (h.begin (.inr rfl) (hl (by simpa using h2) (by simpa using h3))).goOn
theorem By.goOn {s : S} {now : Int} : By (goOnS s now).1 now := by
  unfold goOnS
  split
  · intro hb; simp [busy] at hb
  · intro _; exact Int.le_refl _
theorem By.mono {s : S} {a b : Int} (h : By s a) (hb : a ≤ b) : By s b := fun g => Int.le_trans (h g) hb
end Ln
end Go.Proofs.Ytnfkkonmhinlcaa
