/- Package line: what statements LineRetries and LineWrites say, in plain terms. No program in sight. -/
import Derived.Test.YtnfkkonmhinlcaaLnV
import Derived.Test.YtnfkkonmhinlcaaRunPieces
namespace Go.Proofs.Ytnfkkonmhinlcaa
open Go.RowKit
set_option linter.unusedVariables false
set_option linter.unusedSimpArgs false
namespace Ln
open Run (O ROp timesR endsR dueT nextT chk chkR Fit acts)
theorem writ_app (a b : List U) : writR (a ++ b) = writR a ++ writR b := by simp [writR]
theorem writ_cons (a : U) (b : List U) : writR (a :: b) = (if a.1 = 3 then a.2 else []) ++ writR b := by simp [writR]
theorem chk_okO {a : Int} {l : List O} (h : chkR a l = 0) : ∀ x ∈ l, Run.okO x = true := by
  induction l generalizing a with
  | nil => intro x hx; cases hx
  | cons y l ih =>
    intro x hx
    rcases List.mem_cons.1 hx with rfl | hx
    · unfold chkR at h
      cases e : Run.okO x
      · rw [if_pos e] at h; cases h
      · rfl
    · exact ih (Run.chk_cons h).2.2 x hx
theorem okO_text {x : O} (h : Run.okO x = true) : (x.1 = 3 → x.2.1 = []) ∧ (x.1 = 2 → x.2.1 = []) := by
  have := of_decide_eq_true h
  constructor
  · intro e; rcases this with g | g | g <;> simp_all
  · intro e; rcases this with g | g | g <;> simp_all
theorem writ_acts {l : List O} (h : ∀ x ∈ l, Run.okO x = true) : writR ((acts l).map outO) = Brk.allS l := by
  induction l with
  | nil => rfl
  | cons x l ih =>
    have h1 := okO_text (h x (by simp))
    have h2 := ih (fun y hy => h y (List.mem_cons_of_mem _ hy))
    have e : Brk.allS (x :: l) = x.2.1 ++ Brk.allS l := by simp [Brk.allS]
    rw [e]
    unfold acts at h2 ⊢
    by_cases e2 : x.1 = 2
    · rw [List.filter_cons_of_neg (by simp [e2]), h2, h1.2 e2]; rfl
    · rw [List.filter_cons_of_pos (by simpa using e2), List.map_cons, writ_cons, h2]
      unfold outO
      by_cases e3 : x.1 = 3
      · rw [if_pos e3, h1.1 e3]; rfl
      · rw [if_neg e3]; simp
theorem allS_le {l : List O} {Z : Nat} (h : ∀ x ∈ l, x.2.1.length ≤ Z) : (Brk.allS l).length ≤ l.length * Z := by
  induction l with
  | nil => simp [Brk.allS]
  | cons x l ih =>
    have h1 := h x (by simp)
    have h2 := ih (fun y hy => h y (List.mem_cons_of_mem _ hy))
    have e : Brk.allS (x :: l) = x.2.1 ++ Brk.allS l := by simp [Brk.allS]
    rw [e, List.length_append, List.length_cons, Nat.add_mul]
    omega
abbrev T19 (s : S) := timesR s.start s.seq
/-- What a sequence sends behind a time, up to another. -/
def sentT (u v : Int) (start : Int) (l : List O) : Str := writR ((dueT u v (timesR start l)).map outO)
theorem sent_cat {u v x start : Int} {l : List O} (hck : chkR start l = 0) (h1 : u ≤ v) (h2 : v ≤ x) : sentT u v start l ++ sentT v x start l = sentT u x start l := by
  unfold sentT
  rw [← writ_app, ← List.map_append, Run.due_cat (Run.times_up hck).1 h1 h2]
theorem sent_all {u v start : Int} {l : List O} (hck : chkR start l = 0) (h1 : u < start) (h2 : endsR start l ≤ v) : sentT u v start l = Brk.allS l := by
  unfold sentT
  rw [Run.due_all hck h1 h2, writ_acts (chk_okO hck)]
theorem due_cap {u v start : Int} {l : List O} (hck : chkR start l = 0) (h : endsR start l ≤ v) : dueT u v (timesR start l) = dueT u (endsR start l) (timesR start l) := by
  unfold Run.dueT
  congr 1
  apply List.filter_congr
  intro x hx
  have h3 := (Run.times_up hck).2.1 x hx
  rw [decide_eq_true (show x.1 ≤ v by omega), decide_eq_true h3]
theorem sent_cap {u v start : Int} {l : List O} (hck : chkR start l = 0) (h : endsR start l ≤ v) : sentT u v start l = sentT u (endsR start l) start l := by
  unfold sentT
  rw [due_cap hck h]
theorem sent_due (s : S) (now : Int) : writR (dueS s now) = sentT s.was now s.start s.seq := rfl
theorem writ_tail (s : S) : writR (tailS s) = s.held := by
  unfold tailS
  split
  · rename_i h; rw [h]; rfl
  · simp [writR]
/-! ### LineWrites: what was taken, what waits, what was written. -/
structure Taken (s : S) (want held got : Str) (now : Int) : Prop where
  ok : Ok s 0
  by' : By s now
  st : (s.st = 4 ∧ got = want ∧ held = [] ∧ s.held = []) ∨ (s.st = 5 ∧ held = s.held ∧ want = got ++ sentT s.was (endsR s.start s.seq) s.start s.seq)
/-- The law's step: what is up, has nothing waiting. -/
def up (s : S) (want held : Str) : Str × Str := if s.st = 4 then (want ++ held, []) else (want, held)
/-- What goOn leaves, of a sequence that is under way. -/
theorem Taken.goOn {s : S} {want held got : Str} {now : Int} (hok : Ok s 0) (hst : s.st = 5) (hw : s.was ≤ now) (hf : Fit s.seq s.start) (hh : held = s.held) (hwant : want = got ++ sentT s.was (endsR s.start s.seq) s.start s.seq) :
    Taken (goOnS s now).1 (up (goOnS s now).1 want held).1 (up (goOnS s now).1 want held).2 (got ++ writR (goOnS s now).2) now := by
  have hgo := hok.goOn (now := now)
  have hby := By.goOn (s := s) (now := now)
  refine ⟨hgo, hby, ?_⟩
  unfold goOnS up at *
  by_cases ho : overS s now = true
  · rw [if_pos ho]
    have he : endsR s.start s.seq ≤ now := of_decide_eq_true ho
    refine .inl ⟨rfl, ?_, rfl, rfl⟩
    simp only [if_true]
    rw [writ_app, writ_tail, sent_due, sent_cap hf.ck he, hwant, hh]
    simp
  · rw [if_neg ho]
    have he : ¬ endsR s.start s.seq ≤ now := fun h => ho (decide_eq_true h)
    refine .inr ⟨hst, ?_, ?_⟩
    · simp only [hst]; exact hh
    · simp only [hst]
      rw [sent_due, hwant, ← sent_cat hf.ck hw (by omega), List.append_assoc]
      simp
theorem Taken.up {s : S} {want held got : Str} {now : Int} (h : Taken s want held got now) : Taken s (Ln.up s want held).1 (Ln.up s want held).2 got now := by
  refine ⟨h.ok, h.by', ?_⟩
  unfold Ln.up
  rcases h.st with ⟨h1, h2, h3, h4⟩ | ⟨h1, h2, h3⟩
  · rw [if_pos h1]
    exact .inl ⟨h1, by rw [h3]; simpa using h2, rfl, h4⟩
  · rw [if_neg (by omega)]
    exact .inr ⟨h1, h2, h3⟩
theorem Taken.later {s : S} {want held got : Str} {now u : Int} (h : Taken s want held got now) (hu : now ≤ u) : Taken s want held got u := ⟨h.ok, h.by'.mono hu, h.st⟩
theorem Taken.tick {s : S} {want held got : Str} {now : Int} (h : Taken s want held got now) : Taken (tickS s now).1 (Ln.up (tickS s now).1 want held).1 (Ln.up (tickS s now).1 want held).2 (got ++ writR (tickS s now).2) now := by
  have hno : ∀ r, r = (s, ([] : List U)) → Taken r.1 (Ln.up r.1 want held).1 (Ln.up r.1 want held).2 (got ++ writR r.2) now := fun r e => by
    subst e
    have := h.up
    simpa [writR] using this
  by_cases hc : (nextS s).2 = false ∨ now < (nextS s).1 ∨ lateI now = true
  · exact hno _ (if_pos hc)
  · rcases h.st with ⟨h1, h2, h3, h4⟩ | ⟨h1, h2, h3⟩
    · exact absurd (.inl (by unfold nextS; rw [if_neg (by omega), if_neg (by unfold busy; simp; omega)])) hc
    · have hb : busy s = true := decide_eq_true (.inr h1)
      rw [show tickS s now = goOnS s now by unfold tickS; rw [if_neg hc, if_neg (by omega)]]
      exact Taken.goOn h.ok h1 (h.by' hb) (h.ok.fit hb) h2 h3
theorem Taken.send {s : S} {want held got : Str} {now : Int} (h : Taken s want held got now) (t : Str) :
    Taken (sendS s t).1 (Ln.up (sendS s t).1 want (if (sendS s t).2.2 = true then held ++ t else held)).1 (Ln.up (sendS s t).1 want (if (sendS s t).2.2 = true then held ++ t else held)).2 (got ++ writR (sendS s t).2.1) now := by
  rcases h.st with ⟨h1, h2, h3, h4⟩ | ⟨h1, h2, h3⟩
  · have e : sendS s t = (s, if t = [] then [] else [(3, t)], true) := by unfold sendS; rw [if_pos h1]
    have hw : writR (if t = [] then [] else [((3, t) : U)]) = t := by
      split
      · rename_i g; rw [g]; rfl
      · simp [writR]
    rw [e]
    simp only [if_true]
    refine ⟨h.ok, h.by', .inl ⟨h1, ?_, ?_, h4⟩⟩
    · unfold Ln.up
      rw [if_pos h1, hw, h3, h2]; simp
    · unfold Ln.up
      rw [if_pos h1]
  · have hok := h.ok.send t
    have hb : busy s = true := decide_eq_true (.inr h1)
    by_cases hc : 4096 < s.held.length + t.length
    · have e : sendS s t = (s, [], false) := by unfold sendS; rw [if_neg (by omega), if_pos (.inr hc)]
      rw [e]
      have := h.up
      simpa [writR] using this
    · have e : sendS s t = ({ s with held := s.held ++ t }, [], true) := by unfold sendS; rw [if_neg (by omega), if_neg (not_or.2 ⟨by rw [hb]; simp, hc⟩)]
      rw [e] at hok ⊢
      refine ⟨hok, h.by', .inr ⟨h1, ?_, ?_⟩⟩
      · unfold Ln.up
        simp only [h1]
        rw [if_neg (by decide)]
        simp [h2]
      · unfold Ln.up
        simp only [h1]
        rw [if_neg (by decide)]
        simpa [writR] using h3
theorem Taken.break_ {s : S} {want held got : Str} {now : Int} (h : Taken s want held got now) (l : List O) (hl : l.length ≤ 1000) (hwf : ∀ x ∈ l, Run.wfO x) :
    Taken (breakS s now l).1 (Ln.up (breakS s now l).1 (if (breakS s now l).2.2 = 0 then want ++ Brk.allS l else want) held).1 (Ln.up (breakS s now l).1 (if (breakS s now l).2.2 = 0 then want ++ Brk.allS l else want) held).2 (got ++ writR (breakS s now l).2.1) now := by
  have hno : ∀ c, c ≠ 0 → breakS s now l = (s, [], c) → Taken (breakS s now l).1 (Ln.up (breakS s now l).1 (if (breakS s now l).2.2 = 0 then want ++ Brk.allS l else want) held).1 (Ln.up (breakS s now l).1 (if (breakS s now l).2.2 = 0 then want ++ Brk.allS l else want) held).2 (got ++ writR (breakS s now l).2.1) now := fun c hc e => by
    rw [e]
    simp only [if_neg hc]
    have := h.up
    simpa [writR] using this
  rcases h.st with ⟨h1, h2, h3, h4⟩ | ⟨h1, h2, h3⟩
  · by_cases hl1 : lateI now = true
    · exact hno 1 (by decide) (by unfold breakS; rw [if_neg (by omega), if_pos hl1])
    · by_cases hc : chk now l = 0
      · have e : breakS s now l = ((goOnS (beginS s 5 l now) now).1, (goOnS (beginS s 5 l now) now).2, 0) := by
          unfold breakS
          rw [if_neg (by omega), if_neg hl1, if_neg (by rw [hc]; simp)]
        have hf := fit_chk hc hl hwf
        rw [e]
        simp only [if_true]
        refine Taken.goOn (h.ok.begin (.inr rfl) hf) rfl (by show now - 1 ≤ now; omega) hf ?_ ?_
        · show held = s.held
          rw [h3, h4]
        · show want ++ Brk.allS l = got ++ sentT (now - 1) (endsR now l) now l
          rw [sent_all hf.ck (by omega) (Int.le_refl _), h2]
      · exact hno _ hc (by unfold breakS; rw [if_neg (by omega), if_neg hl1, if_pos hc])
  · exact hno 9 (by decide) (if_pos (by omega))
/-- What is judged. -/
theorem Taken.fine {s : S} {want held got : Str} {now : Int} (h : Taken s want held got now) : ¬ want.length < got.length ∧ want.take got.length = got ∧ (s.st = 4 → got = want) := by
  rcases h.st with ⟨h1, h2, h3, h4⟩ | ⟨h1, h2, h3⟩
  · subst h2
    exact ⟨by omega, List.take_length, fun _ => rfl⟩
  · refine ⟨by rw [h3]; simp, by rw [h3]; simp, fun h => by omega⟩
/-! ### LineRetries. -/
theorem low_is {b c j n : Int} (h : Backoff.ok b c j = true) (h0 : 0 ≤ n) (h1 : n ≤ 1000000) : (Calc.dblR b n c).1 = Backoff.lowOf b c n.toNat := by
  obtain ⟨k1, k2, k3, k4, k5, k6⟩ := Backoff.ok_iff.1 h
  rw [Calc.dblR_yes (by simp [Calc.dblOk, Calc.isT]; omega)]
  rfl
/-- A line that could not be opened, so often. -/
structure Fails (b c j : Int) (L : List O) (i : Int) (s : S) : Prop where
  b : s.b = b
  c : s.c = c
  j : s.j = j
  n : s.n = i
  st : s.st = 2
  first : s.first = L
  held : s.held = []
theorem Fails.next {b c j i now : Int} {L : List O} {s : S} (h : Fails b c j L i s) (hok : Ok s i) (hi : i ≤ 1000) (hn : lateI now = false) (r : Int) (ha : lateI (waitS s now r) = false) :
    openedS s now false r = (failedS s now r, []) ∧ nextS (failedS s now r) = (waitS s now r, true) ∧ now + Backoff.lowOf b c i.toNat ≤ waitS s now r ∧ waitS s now r ≤ now + Backoff.lowOf b c i.toNat + j ∧
      tickS (failedS s now r) (waitS s now r - 1) = (failedS s now r, []) ∧ tickS (failedS s now r) (waitS s now r) = ({ failedS s now r with st := 2 }, [(1, [])]) ∧ Fails b c j L (i + 1) { failedS s now r with st := 2 } := by
  have hr := hok.rule
  obtain ⟨k1, k2, k3, k4, k5, k6⟩ := Backoff.ok_iff.1 hr
  have e1 : openedS s now false r = (failedS s now r, []) := by unfold openedS; rw [if_neg (by rw [h.st, hn]; simp), if_pos rfl]
  have e2 : nextS (failedS s now r) = (waitS s now r, true) := rfl
  have m1 : 0 ≤ r % (s.j + 1) := Int.emod_nonneg _ (by omega)
  have m2 : r % (s.j + 1) < s.j + 1 := Int.emod_lt_of_pos _ (by omega)
  have ew : waitS s now r = now + (Backoff.lowOf b c i.toNat + r % (s.j + 1)) := by unfold waitS; rw [h.b, h.c, h.n]
  have hj := h.j
  refine ⟨e1, e2, by omega, by omega, ?_, ?_, ⟨h.b, h.c, h.j, by simp only [failedS]; rw [h.n], rfl, h.first, rfl⟩⟩
  · unfold tickS
    rw [if_pos (.inr (.inl (by rw [e2]; simp only; omega)))]
  · unfold tickS
    rw [if_neg (by rw [e2, ha]; simp), if_pos (show (failedS s now r).st = 1 from rfl)]
/-- How many steps are still ahead. -/
def ahead (now : Int) (l : List (Int × O)) : Nat := (l.filter (fun x => decide (now < x.1))).length
theorem ahead_le (now : Int) (l : List (Int × O)) : ahead now l ≤ l.length := List.length_filter_le _ _
theorem ahead_less {now : Int} {l : List (Int × O)} {x : Int × O} (hx : x ∈ l) (hn : now < x.1) : ahead x.1 l < ahead now l := by
  unfold ahead
  induction l with
  | nil => cases hx
  | cons y l ih =>
    have mono : ∀ m : List (Int × O), (m.filter (fun z => decide (x.1 < z.1))).length ≤ (m.filter (fun z => decide (now < z.1))).length := fun m => by
      induction m with
      | nil => simp
      | cons z m ih =>
        by_cases h1 : x.1 < z.1
        · rw [List.filter_cons_of_pos (by simpa using h1), List.filter_cons_of_pos (by simp; omega)]
          simpa using ih
        · rw [List.filter_cons_of_neg (by simpa using h1)]
          by_cases h2 : now < z.1
          · rw [List.filter_cons_of_pos (by simpa using h2)]
            simp only [List.length_cons]; omega
          · rw [List.filter_cons_of_neg (by simpa using h2)]; exact ih
    rcases List.mem_cons.1 hx with e | hx
    · subst e
      rw [List.filter_cons_of_neg (by simp), List.filter_cons_of_pos (by simpa using hn)]
      have := mono l
      simp only [List.length_cons]; omega
    · have := ih hx
      by_cases h1 : x.1 < y.1
      · rw [List.filter_cons_of_pos (by simpa using h1), List.filter_cons_of_pos (by simp; omega)]
        simpa using this
      · rw [List.filter_cons_of_neg (by simpa using h1)]
        by_cases h2 : now < y.1
        · rw [List.filter_cons_of_pos (by simpa using h2)]
          simp only [List.length_cons]; omega
        · rw [List.filter_cons_of_neg (by simpa using h2)]; exact this
/-- A line that does what is sent first, or is up behind it: k ticks were given. -/
structure Comes (L : List O) (t0 now : Int) (k : Nat) (sent : Str) (s : S) : Prop where
  n : s.n = 0
  at' : t0 ≤ now ∧ now ≤ endsR t0 L
  st : (s.st = 4 ∧ sent = Brk.allS L) ∨ (s.st = 3 ∧ s.seq = L ∧ s.start = t0 ∧ s.was = now ∧ s.held = [] ∧ now < endsR t0 L ∧ k + ahead now (timesR t0 L) ≤ 255 ∧ sent = sentT (t0 - 1) now t0 L)
theorem Comes.start {b c j i t0 : Int} {L : List O} {s : S} {r : Int} (h : Fails b c j L i s) (hf : Fit L t0) (hl : L.length ≤ 255) (hn : lateI t0 = false) :
    Comes L t0 t0 0 (writR (openedS s t0 true r).2) (openedS s t0 true r).1 := by
  have e : openedS s t0 true r = goOnS (beginS { s with n := 0 } 3 s.first t0) t0 := by unfold openedS; rw [if_neg (by rw [h.st, hn]; simp), if_neg (by simp)]
  obtain ⟨u1, u2, u3⟩ := Run.times_up hf.ck
  have hh := h.held
  have hL := h.first
  rw [e]
  unfold goOnS
  by_cases ho : overS (beginS { s with n := 0 } 3 s.first t0) t0 = true
  · rw [if_pos ho]
    have he : endsR t0 s.first ≤ t0 := of_decide_eq_true ho
    refine ⟨rfl, ⟨Int.le_refl _, u3⟩, .inl ⟨rfl, ?_⟩⟩
    simp only
    rw [writ_app, writ_tail, sent_due]
    show sentT (t0 - 1) t0 t0 s.first ++ s.held = _
    rw [hh, List.append_nil, ← hL, sent_all (by rw [hL]; exact hf.ck) (by omega) he]
  · rw [if_neg ho]
    have he : ¬ endsR t0 s.first ≤ t0 := fun g => ho (decide_eq_true g)
    refine ⟨rfl, ⟨Int.le_refl _, u3⟩, .inr ⟨rfl, hL, rfl, rfl, hh, by rw [← hL]; omega, ?_, ?_⟩⟩
    · have := ahead_le t0 (timesR t0 L)
      rw [Run.times_len] at this
      omega
    · simp only
      rw [sent_due]
      show sentT (t0 - 1) t0 t0 s.first = _
      rw [hL]
theorem Comes.tick {t0 now : Int} {L : List O} {k : Nat} {sent : Str} {s : S} (h : Comes L t0 now k sent s) (hf : Fit L t0) (hs : s.st = 3) (hle : lateI (nextS s).1 = false) :
    (nextS s).2 = true ∧ now ≤ (nextS s).1 ∧ tickS s (nextS s).1 = goOnS s (nextS s).1 ∧ Comes L t0 (nextS s).1 (k + 1) (sent ++ writR (tickS s (nextS s).1).2) (tickS s (nextS s).1).1 := by
  rcases h.st with ⟨h1, _⟩ | ⟨h1, h2, h3, h4, h5, h6, h7, h8⟩
  · omega
  obtain ⟨u1, u2, u3⟩ := Run.times_up hf.ck
  have hb : busy s = true := decide_eq_true (.inl h1)
  have en : nextS s = nextT now (endsR t0 L) (timesR t0 L) := by
    unfold nextS seqNext
    rw [if_neg (by omega), if_pos hb, h2, h3, h4]
  obtain ⟨a, hna, hle2, hlt2, hcase⟩ : ∃ a, nextT now (endsR t0 L) (timesR t0 L) = (a, true) ∧ a ≤ endsR t0 L ∧ now < a ∧ (a = endsR t0 L ∨ ∃ x ∈ timesR t0 L, x.1 = a ∧ now < x.1) := by
    unfold nextT
    cases hfind : (timesR t0 L).find? (fun x => x.2.1 != 2 && decide (now < x.1)) with
    | some x =>
      have hm := List.mem_of_find?_eq_some hfind
      have hp := List.find?_some hfind
      simp only [Bool.and_eq_true, decide_eq_true_eq] at hp
      exact ⟨x.1, rfl, u2 x hm, hp.2, .inr ⟨x, hm, rfl, hp.2⟩⟩
    | none =>
      simp only
      rw [if_pos h6]
      exact ⟨_, rfl, Int.le_refl _, h6, .inl rfl⟩
  rw [en, hna] at hle ⊢
  simp only at hle ⊢
  have et : tickS s a = goOnS s a := by
    unfold tickS
    rw [if_neg (by rw [en, hna, hle]; simp), if_neg (by omega)]
  refine ⟨by first | rfl | trivial, by omega, et, ?_⟩
  rw [et]
  unfold goOnS
  by_cases ho : overS s a = true
  · rw [if_pos ho]
    have he : endsR t0 L ≤ a := by
      have := of_decide_eq_true ho
      rw [h2, h3] at this
      exact this
    refine ⟨h.n, ⟨by have := h.at'.1; omega, hle2⟩, .inl ⟨rfl, ?_⟩⟩
    simp only
    rw [writ_app, writ_tail, sent_due, h5, List.append_nil, h8, h2, h3, h4, sent_cat hf.ck (by have := h.at'.1; omega) (by omega), sent_all hf.ck (by omega) he]
  · rw [if_neg ho]
    have he : ¬ endsR t0 L ≤ a := fun g => ho (decide_eq_true (by rw [h2, h3]; exact g))
    refine ⟨h.n, ⟨by have := h.at'.1; omega, hle2⟩, .inr ⟨h1, h2, h3, rfl, h5, by omega, ?_, ?_⟩⟩
    · rcases hcase with e | ⟨x, hx, e, hnx⟩
      · omega
      · have := ahead_less hx hnx
        rw [e] at this
        omega
    · simp only
      rw [sent_due, h8, h2, h3, h4, sent_cat hf.ck (by have := h.at'.1; omega) (by omega)]
theorem Comes.done {t0 now : Int} {L : List O} {k : Nat} {sent : Str} {s : S} (h : Comes L t0 now k sent s) (hs : ¬ (k < 300 ∧ s.st = 3)) : s.st = 4 ∧ sent = Brk.allS L := by
  rcases h.st with h1 | ⟨h1, _, _, _, _, _, h7, _⟩
  · exact h1
  · exact absurd ⟨by omega, h1⟩ hs
end Ln
end Go.Proofs.Ytnfkkonmhinlcaa
