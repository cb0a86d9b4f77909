/- Package line, in plain terms: what befalls a line. No program in sight. -/
import Derived.Test.YtnfkkonmhinlcaaRunAt
import Derived.Test.YtnfkkonmhinlcaaMergedD
import Derived.Test.YtnfkkonmhinlcaaBackoff
namespace Go.Proofs.Ytnfkkonmhinlcaa
open Go.RowKit
set_option linter.unusedVariables false
set_option linter.unusedSimpArgs false
namespace Ln
open Run (O timesR endsR dueT nextT chk chkR Fit)
/-- A line: its rule, its state, failures, until when is waited, what is sent first; the sequence, when that began, up to when it was done; what waits. -/
structure S where
  b : Int
  c : Int
  j : Int
  st : Int
  n : Int
  at_ : Int
  first : List O
  seq : List O
  start : Int
  was : Int
  held : Str
abbrev U := Int × Str
def outO (x : O) : U := if x.1 = 3 then (4, []) else (3, x.2.1)
def busy (s : S) : Bool := decide (s.st = 3 ∨ s.st = 5)
def seqNext (s : S) : Int × Bool := nextT s.was (endsR s.start s.seq) (timesR s.start s.seq)
def nextS (s : S) : Int × Bool := if s.st = 1 then (s.at_, true) else if busy s = true then seqNext s else (0, false)
def waitS (s : S) (now r : Int) : Int := now + (Backoff.lowOf s.b s.c s.n.toNat + r % (s.j + 1))
def failedS (s : S) (now r : Int) : S := { s with n := s.n + 1, at_ := waitS s now r, st := 1, seq := [], held := [] }
def dueS (s : S) (now : Int) : List U := (dueT s.was now (timesR s.start s.seq)).map outO
def tailS (s : S) : List U := if s.held = [] then [] else [(3, s.held)]
def overS (s : S) (now : Int) : Bool := decide (endsR s.start s.seq ≤ now)
def goOnS (s : S) (now : Int) : S × List U :=
  if overS s now = true then ({ s with was := now, st := 4, seq := [], held := [] }, dueS s now ++ tailS s) else ({ s with was := now }, dueS s now)
def lateI (now : Int) : Bool := decide (now < 0 ∨ 549755813888 < now)
theorem late_no {now : Int} (h : lateI now = false) : 0 ≤ now ∧ now ≤ 549755813888 := by
  have := of_decide_eq_false h
  omega
def startS (s : S) : S × List U := if s.st = 0 then ({ s with n := 0, st := 2 }, [(1, [])]) else (s, [])
def offS (s : S) : S := { s with st := 0, seq := [], held := [] }
def stopS (s : S) : S × List U := if s.st = 0 then (s, []) else (offS s, if s.st = 1 then [] else [(2, [])])
def beginS (s : S) (st : Int) (l : List O) (now : Int) : S := { s with st := st, seq := l, start := now, was := now - 1 }
def openedS (s : S) (now : Int) (ok : Bool) (r : Int) : S × List U :=
  if s.st ≠ 2 ∨ lateI now = true then (s, []) else if ok = false then (failedS s now r, []) else goOnS (beginS { s with n := 0 } 3 s.first now) now
def lostS (s : S) (now r : Int) : S × Bool := if s.st < 3 ∨ lateI now = true then (s, false) else (failedS s now r, true)
def tickS (s : S) (now : Int) : S × List U :=
  if (nextS s).2 = false ∨ now < (nextS s).1 ∨ lateI now = true then (s, []) else if s.st = 1 then ({ s with st := 2 }, [(1, [])]) else goOnS s now
def sendS (s : S) (t : Str) : S × List U × Bool :=
  if s.st = 4 then (s, if t = [] then [] else [(3, t)], true) else if busy s = false ∨ 4096 < s.held.length + t.length then (s, [], false) else ({ s with held := s.held ++ t }, [], true)
def breakS (s : S) (now : Int) (l : List O) : S × List U × Int :=
  if s.st ≠ 4 then (s, [], 9) else if lateI now = true then (s, [], 1) else if chk now l ≠ 0 then (s, [], chk now l) else
    let g := goOnS (beginS s 5 l now) now
    (g.1, g.2, 0)
/-- What holds of every line at a time: nothing was done later. -/
structure Ok (s : S) (k : Int) : Prop where
  rule : Backoff.ok s.b s.c s.j = true
  n0 : 0 ≤ s.n ∧ s.n ≤ k
  st : 0 ≤ s.st ∧ s.st ≤ 5
  fit : busy s = true → Fit s.seq s.start
  first : ∀ now, 0 ≤ now → now ≤ 549755813888 → Fit s.first now
  len : s.held.length ≤ 4096
  wait : s.st = 1 → 0 ≤ s.at_ ∧ s.at_ ≤ 549756000000
/-- Nothing was done later than now. -/
def By (s : S) (now : Int) : Prop := busy s = true → s.was ≤ now
theorem wait_in {s : S} {k now : Int} (h : Ok s k) (r : Int) : now + s.b ≤ waitS s now r ∧ waitS s now r ≤ now + 90000 := by
  obtain ⟨l1, l2, l3⟩ := Backoff.low_in (n := s.n) h.rule
  obtain ⟨k1, k2, k3, k4, k5, k6⟩ := Backoff.ok_iff.1 h.rule
  have m1 : 0 ≤ r % (s.j + 1) := Int.emod_nonneg _ (by omega)
  have m2 : r % (s.j + 1) < s.j + 1 := Int.emod_lt_of_pos _ (by omega)
  unfold waitS
  omega
theorem Ok.mono {s : S} {k m : Int} (h : Ok s k) (hm : k ≤ m) : Ok s m := ⟨h.rule, ⟨h.n0.1, by have := h.n0.2; omega⟩, h.st, h.fit, h.first, h.len, h.wait⟩
theorem Ok.failed {s : S} {k now : Int} (h : Ok s k) (r : Int) (hn : lateI now = false) : Ok (failedS s now r) (k + 1) := by
  obtain ⟨n1, n2⟩ := late_no hn
  obtain ⟨w1, w2⟩ := wait_in h (now := now) r
  obtain ⟨k1, k2, k3, k4, k5, k6⟩ := Backoff.ok_iff.1 h.rule
  refine ⟨h.rule, ?_, by simp [failedS], fun hb => by simp [failedS, busy] at hb, h.first, by simp [failedS], fun _ => ?_⟩
  · have := h.n0
    simp only [failedS]; omega
  · simp only [failedS]; omega
theorem Ok.goOn {s : S} {k now : Int} (h : Ok s k) : Ok (goOnS s now).1 k := by
  unfold goOnS
  split
  · exact ⟨h.rule, h.n0, by simp, fun hb => by simp [busy] at hb, h.first, by simp, fun h1 => by simp at h1⟩
  · exact ⟨h.rule, h.n0, h.st, h.fit, h.first, h.len, h.wait⟩
theorem Ok.begin {s : S} {k st now : Int} {l : List O} (h : Ok s k) (hs : st = 3 ∨ st = 5) (hl : Fit l now) : Ok (beginS s st l now) k :=
  ⟨h.rule, h.n0, by simp only [beginS]; omega, fun _ => hl, h.first, h.len, fun h1 => by simp only [beginS] at h1; omega⟩
theorem Ok.zero {s : S} {k : Int} (h : Ok s k) : Ok { s with n := 0 } k := ⟨h.rule, ⟨Int.le_refl _, by have := h.n0; simp only; omega⟩, h.st, h.fit, h.first, h.len, h.wait⟩
theorem Ok.start {s : S} {k : Int} (h : Ok s k) : Ok (startS s).1 k := by
  unfold startS
  split
  · exact ⟨h.rule, ⟨Int.le_refl _, by have := h.n0; simp only; omega⟩, by simp, fun hb => by simp [busy] at hb, h.first, h.len, fun h1 => by simp at h1⟩
  · exact h
theorem Ok.stop {s : S} {k : Int} (h : Ok s k) : Ok (stopS s).1 k := by
  unfold stopS
  split
  · exact h
  · exact ⟨h.rule, h.n0, by simp [offS], fun hb => by simp [offS, busy] at hb, h.first, by simp [offS], fun h1 => by simp [offS] at h1⟩
theorem Ok.opened {s : S} {k now : Int} (h : Ok s k) (ok : Bool) (r : Int) : Ok (openedS s now ok r).1 (k + 1) := by
  unfold openedS
  split
  · exact h.mono (by omega)
  · rename_i hc
    have hc := not_or.1 hc
    have hl : lateI now = false := by simpa using hc.2
    obtain ⟨n1, n2⟩ := late_no hl
    split
    · exact h.failed r hl
    · exact ((h.zero.begin (.inl rfl) (h.first now n1 n2)).goOn).mono (by omega)
theorem Ok.lost {s : S} {k now : Int} (h : Ok s k) (r : Int) : Ok (lostS s now r).1 (k + 1) := by
  unfold lostS
  split
  · exact h.mono (by omega)
  · rename_i hc
    exact h.failed r (by simpa using (not_or.1 hc).2)
theorem Ok.tick {s : S} {k now : Int} (h : Ok s k) : Ok (tickS s now).1 k := by
  unfold tickS
  split
  · exact h
  · split
    · exact ⟨h.rule, h.n0, by simp, fun hb => by simp [busy] at hb, h.first, h.len, fun h1 => by simp at h1⟩
    · exact h.goOn
theorem Ok.send {s : S} {k : Int} (h : Ok s k) (t : Str) : Ok (sendS s t).1 k := by
  unfold sendS
  split
  · exact h
  · split
    · exact h
    · rename_i hc
      have hc := not_or.1 hc
      exact ⟨h.rule, h.n0, h.st, h.fit, h.first, by simp; omega, h.wait⟩
theorem Ok.break_ {s : S} {k now : Int} {l : List O} (h : Ok s k) (hl : lateI now = false → chk now l = 0 → Fit l now) : Ok (breakS s now l).1 k := by
  unfold breakS
  split
  · exact h
  · split
    · exact h
    · split
      · exact h
      · rename_i h1 h2 h3
        exact (h.begin (.inr rfl) (hl (by simpa using h2) (by simpa using h3))).goOn
theorem By.goOn {s : S} {now : Int} : By (goOnS s now).1 now := by
  unfold goOnS
  split
  · intro hb; simp [busy] at hb
  · intro _; exact Int.le_refl _
theorem By.mono {s : S} {a b : Int} (h : By s a) (hb : a ≤ b) : By s b := fun g => Int.le_trans (h g) hb
end Ln
end Go.Proofs.Ytnfkkonmhinlcaa
/- Package line: rows of what is done to a line; the reference's Same and Written; late; out. -/
namespace Go.Proofs.Ytnfkkonmhinlcaa
open Go.RowKit
set_option linter.unusedVariables false
set_option linter.unusedSimpArgs false
namespace Ln
open Run (O isT is_any)
theorem infoU : (Try.prog.info? 65).map (fun i => (i.zero, i.size, i.bytes)) = some (some (.agg #[.int .i64 0, .string ByteArray.empty]), 2, 24) := by kernel_rfl
def encU (x : U) : List Value := [.int .i64 x.1, .string ⟨x.2.toArray⟩]
abbrev ROut : Rd U := RTwo 1 (RInt .i64) RStr
def wfU (x : U) : Prop := (-9223372036854775808 ≤ x.1 ∧ x.1 ≤ 9223372036854775807) ∧ x.2.length ≤ maxLen
theorem ROut_iff {w : World} {S : Nat → Prop} {cs : List Value} {x : U} (hl : cs.length = 2) : ROut w S cs x ↔ cs = encU x ∧ wfU x := by
  match cs, hl with
  | [a, b], _ =>
    unfold wfU encU
    constructor
    · rintro ⟨_, ⟨h1, h2⟩, h3, h4⟩
      simp at h1 h3
      subst h1 h3
      exact ⟨rfl, Run.wf64.1 h2, h4⟩
    · rintro ⟨h, h2, h4⟩
      injection h with h1 h
      injection h with h3 h
      subst h1 h3
      exact ⟨by simp, ⟨rfl, Run.wf64.2 h2⟩, ⟨rfl, h4⟩⟩
theorem encU_len (l : List U) : (l.flatMap encU).length = l.length * 2 := by
  induction l with
  | nil => rfl
  | cons a l ih => rw [List.flatMap_cons, List.length_append, ih, List.length_cons]; simp [encU]; omega
theorem encU_get (l : List U) (i : Nat) (h : i < l.length) : (l.flatMap encU)[i * 2]? = some (.int .i64 l[i].1) ∧ (l.flatMap encU)[i * 2 + 1]? = some (.string ⟨l[i].2.toArray⟩) := by
  induction l generalizing i with
  | nil => simp at h
  | cons a l ih =>
    rw [List.flatMap_cons]
    cases i with
    | zero => simp [encU]
    | succ i =>
      have := ih i (by simpa using h)
      have e : (encU a).length = 2 := rfl
      rw [List.getElem?_append_right (by rw [e]; omega), List.getElem?_append_right (by rw [e]; omega), e, show (i + 1) * 2 - 2 = i * 2 by omega, show (i + 1) * 2 + 1 - 2 = i * 2 + 1 by omega]
      simpa using this
theorem own_outs {w : World} {base : Nat} {e : TypeId} {v : Value} {l : List U} (h : w.ownsRow base e 2 v l.length (l.flatMap encU)) (hl : ∀ x ∈ l, wfU x) : RSl 2 ROut w (Of v) [v] l := by
  rcases h.2 with ⟨rfl, h0⟩ | ⟨g, cap, cur, rfl, _, hg, h1, h2, h3, h4⟩
  · have : l = [] := List.eq_nil_of_length_eq_zero h0
    subst this
    exact ⟨none, 0, rfl, Nat.le_refl _, Nat.zero_le _, fun _ => rfl, fun i hi => by simp at hi⟩
  · refine ⟨some ⟨g, 0, none⟩, cap, rfl, h1, h2, fun h => (by cases h), fun i hi => ⟨⟨g, 0, none⟩, encU l[i], rfl, rfl, rfl, fun j hj => ?_, ?_⟩⟩
    · obtain ⟨g1, g2⟩ := encU_get l i hi
      obtain rfl | rfl : j = 0 ∨ j = 1 := by omega
      · exact h.cells (g := g) rfl _ _ g1
      · exact h.cells (g := g) rfl _ _ g2
    · exact (ROut_iff rfl).2 ⟨rfl, hl _ (List.getElem_mem hi)⟩
theorem out_cells {w : World} {S : Nat → Prop} {v : Value} {l : List U} (h : RSl 2 ROut w S [v] l) :
    ∃ A cap, v = .slice A l.length cap ∧ l.length ≤ cap ∧ cap ≤ maxLen ∧ ∀ i (hi : i < l.length), ∃ ad, A = some ad ∧ S ad.block ∧ w.cell? (ad.add (i * 2)) = some (.int .i64 l[i].1) ∧ w.cell? ⟨(ad.add (i * 2)).block, (ad.add (i * 2)).off + 1, none⟩ = some (.string ⟨l[i].2.toArray⟩) := by
  obtain ⟨A, cap, h1, h2, h3, _, h5⟩ := h
  refine ⟨A, cap, by injection h1, h2, h3, fun i hi => ?_⟩
  obtain ⟨ad, ecs, g1, g2, g3, g4, g5⟩ := h5 i hi
  obtain ⟨rfl, hw⟩ := (ROut_iff g3).1 g5
  have k0 := g4 0 (by omega)
  have k1 := g4 1 (by omega)
  have e1 : (ad.add (i * 2)).add 1 = ⟨(ad.add (i * 2)).block, (ad.add (i * 2)).off + 1, none⟩ := rfl
  rw [← add_add, e1] at k1
  exact ⟨ad, g1, g2, by simpa [encU] using k0, k1⟩
theorem neq_out (W : World) (a b : Int) (p q : Str) :
    (binOp .neq 65 (.agg #[.int .i64 a, .string ⟨p.toArray⟩]) (.agg #[.int .i64 b, .string ⟨q.toArray⟩])).run Try.prog W = .ok (.bool (!decide ((a, p) = (b, q)))) W := by
  have h1 : Try.prog.underlying 65 = some (.struct (Try.prog.fieldsOf 65)) := by kernel_rfl
  have h2 : Try.prog.stoodInHeld 65 = false := by kernel_rfl
  have hu := Try.underlying65
  rw [run_neq_struct, run_equalIn_struct W _ _ _ _ h1 h2]
  simp [Program.fieldsOf, hu, Op.eqFields, go_sem]
  by_cases e1 : a = b <;> by_cases e2 : p = q <;> simp [e1, e2]
set_option maxHeartbeats 1000000 in
theorem same_any (v u : Value) (l m : List U) (w : World) (S T : Nat → Prop) (hv : RSl 2 ROut w S [v] l) (hu : RSl 2 ROut w T [u] m) :
    Calls Try.prog 26 #[v, u] w fun e w' => e = .returned (.bool (decide (l = m))) ∧ ∃ n, w' = w.drewN n := by
  obtain ⟨A, cap, rfl, hc1, hc2, hel⟩ := out_cells hv
  obtain ⟨B, cap', rfl, hd1, hd2, hem⟩ := out_cells hu
  clear hv hu
  unfold maxLen at hc2 hd2
  have Hel := Lib.hid hel
  have Hem := Lib.hid hem
  clear hel hem
  by_cases hlen : l.length = m.length
  · have Hlen := Lib.hid hlen
    have hb : ((l.length : Int) != (m.length : Int)) = false := by simp [hlen]
    have hlm : l.length ≤ m.length := by omega
    clear hlen
    go_enter Try.func26, Try.ntmps26
    go_wp2
    go_loopw [5] (fun i wr => ∃ k : Nat, i = .int .i64 k ∧ k ≤ l.length ∧ Hid (∃ n, wr = w.drewN n) ∧ Hid (∀ j (h : j < l.length) (h' : j < m.length), j < k → l[j] = m[j])) (fun i _ => l.length - (intOf i).toNat)
    case atStart => exact ⟨0, rfl, by omega, ⟨0, rfl⟩, fun j _ _ h => absurd h (by omega)⟩
    case round =>
      obtain ⟨k, rfl, hk, hw, hd⟩ := hrel
      obtain ⟨n, hn⟩ := hw.out
      subst hn
      by_cases hlt : k < l.length
      · have hlt' : k < m.length := by omega
        obtain ⟨ad, rfl, _, hcell1, hcell2⟩ := Hel.out k hlt
        obtain ⟨bd, rfl, _, hcell4, hcell5⟩ := Hem.out k hlt'
        have hg : Try.prog.eqGuardType Try.prog.depth 65 = false := by kernel_rfl
        have hq := fun W : World => neq_out W l[k].1 m[k].1 l[k].2 m[k].2
        by_cases hx : l[k] = m[k]
        · have hx' : decide ((l[k].1, l[k].2) = (m[k].1, m[k].2)) = true := decide_eq_true hx
          rw [hx'] at hq
          have hn : Hid (∀ j (h : j < l.length) (h' : j < m.length), j < k + 1 → l[j] = m[j]) := by
            intro j h h' hj
            by_cases e : j = k
            · subst e; exact hx
            · exact hd.out j h h' (by omega)
          clear hd hx hx'
          go_wp2
          go_quiet (fail)
          go_wp2
          go_roundw
          case rel => exact ⟨k + 1, by go_num, by omega, ⟨_, rfl⟩, hn⟩
          case measure => simp [intOf]; omega
        · have hx' : decide ((l[k].1, l[k].2) = (m[k].1, m[k].2)) = false := decide_eq_false hx
          rw [hx'] at hq
          have hne : decide (l = m) = false := by
            rw [decide_eq_false_iff_not]
            intro e; subst e; exact hx rfl
          have Hne := Lib.hid hne
          clear hd hx hne hx'
          go_wp2
          go_quiet (fail)
          go_wp2
          go_ret
          exact ⟨ret_bool Hne.out.symm, _, World.drewN_drewN _ _ _⟩
      · have he : Hid (decide (l = m) = true) := by
          show decide (l = m) = true
          rw [decide_eq_true_iff]
          exact List.ext_getElem Hlen.out fun j h h' => hd.out j h h' (by omega)
        clear hd
        go_wp2
        go_ret
        exact ⟨ret_bool he.out.symm, n, rfl⟩
  · have hb : ((l.length : Int) != (m.length : Int)) = true := by simp; omega
    have hne : decide (l = m) = false := by
      rw [decide_eq_false_iff_not]
      intro e; subst e; exact hlen rfl
    have Hne := Lib.hid hne
    clear hlen hne
    go_enter Try.func26, Try.ntmps26
    go_wp2
    go_ret
    exact ⟨ret_bool Hne.out.symm, 0, rfl⟩
theorem rlate_any (now : Int) (w : World) : Calls Try.prog 58 #[.int .i64 now] w fun e w' => e = .returned (.bool (lateI now)) ∧ w = w' := by
  have hc : (now < 0 ∧ lateI now = true) ∨ (0 ≤ now ∧ 549755813888 < now ∧ lateI now = true) ∨ (0 ≤ now ∧ now ≤ 549755813888 ∧ lateI now = false) := by
    unfold lateI
    simp only [decide_eq_true_eq, decide_eq_false_iff_not]
    omega
  rcases hc with ⟨h1, e⟩ | ⟨h1, h2, e⟩ | ⟨h1, h2, e⟩
  all_goals
    have HE := Lib.hid e
    clear e
    go_enter Try.func58, Try.ntmps58
    go_wp2
    all_goals
      go_ret
      have he := HE.out
      first
        | exact ⟨ret_bool he.symm, rfl⟩
        | (refine ⟨ret_bool ?_, rfl⟩; rw [he]; simp; done)
        | (refine ⟨ret_bool ?_, rfl⟩; rw [he]; simp; omega)
theorem isT_late {now : Int} (h : isT now = true) : lateI now = decide (549755813888 < now) := by
  have := Run.isT_iff.1 h
  unfold lateI
  rw [decide_eq_decide]
  omega
theorem isT_not {now : Int} (h : isT now = false) : lateI now = true := by
  unfold lateI
  rw [decide_eq_true_iff]
  have : ¬ (0 ≤ now ∧ now ≤ 1099511627776) := fun c => by rw [Run.isT_iff.2 c] at h; cases h
  omega
theorem late_any (now : Int) (w : World) : Calls Try.prog 33 #[.int .i64 now] w fun e w' => e = .returned (.bool (lateI now)) ∧ w = w' := by
  have hc : (isT now = false ∧ lateI now = true) ∨ (isT now = true ∧ 549755813888 < now ∧ lateI now = true) ∨ (isT now = true ∧ now ≤ 549755813888 ∧ lateI now = false) := by
    cases h : isT now
    · exact .inl ⟨rfl, isT_not h⟩
    · rw [isT_late h]
      by_cases g : 549755813888 < now
      · exact .inr (.inl ⟨rfl, g, decide_eq_true g⟩)
      · exact .inr (.inr ⟨rfl, by omega, decide_eq_false g⟩)
  rcases hc with ⟨h1, e⟩ | ⟨h1, h2, e⟩ | ⟨h1, h2, e⟩
  all_goals
    have HE := Lib.hid e
    have HI := Lib.hid h1
    clear e h1
    go_enter Try.func33, Try.ntmps33
    go_wp2_with (go_at_call 53; refine (is_any _ _).mono ?_; rintro e w' ⟨rfl, rfl⟩; rw [HI.out])
    go_ret
    have he := HE.out
    first
      | exact ⟨ret_bool he.symm, rfl⟩
      | (refine ⟨ret_bool ?_, rfl⟩; rw [he]; simp; done)
      | (refine ⟨ret_bool ?_, rfl⟩; rw [he]; simp; omega)
/-- All bytes that are written. -/
def writR (l : List U) : Str := l.flatMap (fun x => if x.1 = 3 then x.2 else [])
theorem writ_take {l : List U} {k : Nat} (h : k < l.length) : writR (l.take (k + 1)) = writR (l.take k) ++ (if l[k].1 = 3 then l[k].2 else []) := by
  unfold writR
  rw [List.take_succ_eq_append_getElem h, List.flatMap_append]; simp
theorem writ_split (l : List U) (k : Nat) : writR l = writR (l.take k) ++ writR (l.drop k) := by
  unfold writR
  rw [← List.flatMap_append, List.take_append_drop]
set_option maxHeartbeats 1000000 in
theorem written_any (v : Value) (l : List U) (hsum : (writR l).length ≤ 1000000) (w : World) (S : Nat → Prop) (hv : RSl 2 ROut w S [v] l) :
    Calls Try.prog 10 #[v] w fun e w' => e = .returned (.string ⟨(writR l).toArray⟩) ∧ w = w' := by
  obtain ⟨A, cap, rfl, hc1, hc2, hel⟩ := out_cells hv
  clear hv
  unfold maxLen at hc2
  have Hel := Lib.hid hel
  have HSU := Lib.hid hsum
  clear hel hsum
  go_enter Try.func10, Try.ntmps10
  go_wp2_with fail
  go_loopw [3, 4] (fun bv iv wr => ∃ (k : Nat) (t : Str), iv = .int .i64 k ∧ bv = .string ⟨t.toArray⟩ ∧ k ≤ l.length ∧ t.length ≤ 1000000 ∧ Hid (t = writR (l.take k)) ∧ Hid (w = wr)) (fun _ i _ => l.length - (intOf i).toNat)
  case atStart => exact ⟨0, [], rfl, rfl, by omega, by simp, rfl, rfl⟩
  case round =>
    obtain ⟨k, t, rfl, rfl, hk, ht, HN, HW⟩ := hrel
    have hw := HW.out
    subst hw
    by_cases hlt : k < l.length
    · obtain ⟨ad, rfl, -, c0, c1⟩ := Hel.out k hlt
      have hwt := writ_take hlt
      have hnext : (t ++ (if l[k].1 = 3 then l[k].2 else [])).length ≤ 1000000 := by
        have h1 := HSU.out
        rw [writ_split l (k + 1), hwt, List.length_append, ← HN.out] at h1
        omega
      have HN2 := Lib.hid (show t ++ (if l[k].1 = 3 then l[k].2 else []) = writR (l.take (k + 1)) by rw [hwt, HN.out])
      clear HN hwt
      generalize l[k] = x at c0 c1 hnext HN2
      obtain ⟨a, s⟩ := x
      simp only at c0 c1 hnext HN2
      by_cases ha : a = 3
      · subst ha
        rw [if_pos rfl] at hnext HN2
        rw [List.length_append] at hnext
        go_wp2_with fail
        go_roundw
        case rel => exact ⟨k + 1, t ++ s, by go_num, by first | rfl | (simp; done) | (simp [ByteArray.ext_iff]; done), by omega, by simp; omega, HN2, by first | exact trivial | exact rfl⟩
        case measure => simp [intOf]; omega
      · rw [if_neg ha, List.append_nil] at HN2
        have hb : (a == 3) = false := by simpa using ha
        clear ha hnext
        go_wp2_with fail
        go_roundw
        case rel => exact ⟨k + 1, t, by go_num, rfl, by omega, ht, HN2, by first | exact trivial | exact rfl⟩
        case measure => simp [intOf]; omega
    · have HE := Lib.hid (show t = writR l by rw [HN.out, List.take_of_length_le (by omega)])
      clear HN
      go_wp2_with fail
      go_ret
      exact ⟨ret_str HE.out, rfl⟩
end Ln
end Go.Proofs.Ytnfkkonmhinlcaa
/- Package line: rows of outs, in plain terms. -/
namespace Go.Proofs.Ytnfkkonmhinlcaa
open Go.RowKit
set_option linter.unusedVariables false
set_option linter.unusedSimpArgs false
namespace Ln
open Run (O ROp timesR endsR dueT nextT chk chkR Fit)
theorem due_len (was now : Int) (l : List (Int × O)) : (dueT was now l).length ≤ l.length := by
  unfold Run.dueT
  rw [List.length_map]
  exact List.length_filter_le _ _
theorem due_mem {was now start : Int} {l : List O} {x : O} (h : x ∈ dueT was now (timesR start l)) : x ∈ l := by
  unfold Run.dueT at h
  obtain ⟨y, hy, rfl⟩ := List.mem_map.1 h
  have := (List.mem_filter.1 hy).1
  rw [← Run.times_snd start l]
  exact List.mem_map.2 ⟨y, this, rfl⟩
theorem push_step {w2 wr wq w6 : World} {v : Value} {g n c : Nat} (h1 : Step No w2 (Of v) wr) (h2 : Fr No wr wq) (q2 : Fr (Of v) wq w6) (q3 : Of v g ∨ New wq w6 g) : Step No w2 (Of (.slice (some ⟨g, 0, none⟩) n c)) w6 := by
  refine ⟨(h1.1.then_no h2).trans q2 (fun b hb hl => by have := (h1.2 b hb).elim (fun g => g.elim) (fun g => g.1); omega), fun b hb => .inr ?_⟩
  have hb : some g = some b := hb
  injection hb with hb
  subst hb
  rcases q3 with h | h
  · have := (h1.2 _ h).elim (fun g => g.elim) (fun g => g)
    exact ⟨this.1, Nat.lt_of_lt_of_le this.2 (Nat.le_trans h2.size q2.size)⟩
  · exact ⟨Nat.le_trans h1.1.size (Nat.le_trans h2.size h.1), h.2⟩
theorem ba_app (a b : Str) : (⟨a.toArray⟩ : ByteArray) ++ ⟨b.toArray⟩ = ⟨(a ++ b).toArray⟩ := by
  simp [ByteArray.ext_iff]
theorem fit_chk {now : Int} {l : List O} (h : Run.chk now l = 0) (hl : l.length ≤ 1000) (hw : ∀ x ∈ l, Run.wfO x) : Fit l now := by
  unfold Run.chk at h
  split at h
  · rename_i g
    exact ⟨Run.isT_iff.1 g, h, hl, hw⟩
  · exact absurd h (by decide)
theorem ne_empty {t : Str} (h : t ≠ []) : t.isEmpty = false := by
  cases t with
  | nil => exact absurd rfl h
  | cons a t => rfl
theorem out_take {D : List O} {k : Nat} (h : k < D.length) : (D.take (k + 1)).map outO = (D.take k).map outO ++ [outO D[k]] := by
  rw [List.take_succ_eq_append_getElem h, List.map_append]; rfl
end Ln
end Go.Proofs.Ytnfkkonmhinlcaa
