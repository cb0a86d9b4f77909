/- Package line: the law's do: what it yields. Printed by gen_lnx.py. -/
import Derived.Test.YtnfkkonmhinlcaaLnK
import Derived.Test.YtnfkkonmhinlcaaLnT
namespace Go.Proofs.Ytnfkkonmhinlcaa
open Go.RowKit
set_option linter.unusedVariables false
set_option linter.unusedSimpArgs false
namespace Ln
open Run (O ROp timesR endsR dueT nextT chk chkR Fit)
/-- What the law's do yields. -/
def DoIs (w : World) (G B : Nat → Prop) (g : Nat) (r : S) (e : Ending) (w' : World) : Prop :=
  ∃ vF vL G', e = .returned (.tuple #[agL vF vL r, .bool true]) ∧ RL w' B vF vL r ∧ LW w' G' g r ∧ Step G w G' w'
theorem do_end {w wc w2 w5 W : World} {G G' B : Nat → Prop} {g br : Nat} {vF vL : Value} {r : S} {t : Array Value} (ht : t = #[agL vF vL r, .bool true]) (hR : RL w2 B vF vL r) (hL : LW w5 G' g r) (hs : Step G wc G' w5) (hF : Fr (fun z => G z ∨ w.heap.size ≤ z) w W) (hF2 : Fr (fun z => G z ∨ w.heap.size ≤ z) w2 W) (hF5 : Fr (fun z => z = br) w5 W)
    (hB : ∀ k, B k → k < w.heap.size ∧ ¬ G k) (hG : ∀ k, G k → k < w.heap.size) (hb1 : w.heap.size ≤ br) (hb2 : br < wc.heap.size) : DoIs w G B g r (.returned (.tuple t)) W := by
  refine ⟨vF, vL, G', by rw [ht], hR.fr hF2 (fun k hk e => ?_), hL.far hF5 (fun k hk e => ?_), hF.mono (fun b hb hl => hb.resolve_right (by omega)), fun k hk => ?_⟩
  · have := hB k hk
    rcases e with e | e
    · exact this.2 e
    · omega
  · subst e
    rcases hs.2 k hk with e | e
    · have := hG k e; omega
    · have := e.1; omega
  · rcases hs.2 k hk with e | e
    · exact .inl e
    · exact .inr ⟨by have := e.1; omega, Nat.lt_of_lt_of_le e.2 hF5.size⟩
theorem outs_off {w w' : World} {v : Value} {l : List U} {G : Nat → Prop} {X w5 : World} {G' : Nat → Prop} (h : Outs w w' v l) (hG : ∀ k, G k → k < w.heap.size) (hx : Fr No w' X) (hs : Step G X G' w5) : w5.ownsRow 0 65 2 v l.length (l.flatMap encU) :=
  own_fr (own_fr h.1 hx (fun _ _ h => h)) hs.1 (fun k hk e => by have := (h.2 k hk).1; have := hG k e; omega)
theorem same_yes {w X : World} {v u : Value} {l : List U} (h : w.ownsRow 0 65 2 v l.length (l.flatMap encU)) (k : w.ownsRow 0 65 2 u l.length (l.flatMap encU)) (hw : ∀ x ∈ l, wfU x) (hf : Fr No w X) :
    Calls Try.prog 26 #[v, u] X fun e w' => e = .returned (.bool true) ∧ Fr No X w' := by
  refine (same_any v u l l X _ _ (own_outs (own_fr h hf (fun _ _ h => h)) hw) (own_outs (own_fr k hf (fun _ _ h => h)) hw)).mono ?_
  rintro e w' ⟨rfl, n, rfl⟩
  exact ⟨by rw [decide_eq_true rfl], (Fr.refl No X).drewN n⟩
/-! What an act tells reads as rows do. -/
theorem goOn_wf {s : S} {now : Int} (hft : Fit s.seq s.start) (hl : s.held.length ≤ 4096) : ∀ x ∈ (goOnS s now).2, wfU x := by
  have h1 : ∀ x ∈ dueS s now, wfU x := by
    intro x hx
    unfold dueS at hx
    obtain ⟨y, hy, rfl⟩ := List.mem_map.1 hx
    have := (hft.wf y (due_mem hy)).2.1
    unfold outO
    split
    · exact ⟨⟨by simp, by simp⟩, by unfold maxLen; simp⟩
    · exact ⟨⟨by simp, by simp⟩, this⟩
  unfold goOnS
  split
  · intro x hx
    rcases List.mem_append.1 hx with hx | hx
    · exact h1 x hx
    · unfold tailS at hx
      split at hx
      · cases hx
      · rw [List.mem_singleton.1 hx]
        exact ⟨⟨by simp, by simp⟩, by unfold maxLen; simp only; omega⟩
  · exact h1
theorem one_wf {k : Int} {t : Str} (hk : 0 ≤ k ∧ k ≤ 10) (ht : t.length ≤ 100000) : ∀ x ∈ [((k, t) : U)], wfU x := by
  intro x hx
  rw [List.mem_singleton.1 hx]
  exact ⟨by simp only; omega, by unfold maxLen; simp only; omega⟩
theorem start_wf (s : S) : ∀ x ∈ (startS s).2, wfU x := by
  unfold startS
  split
  · exact one_wf (by decide) (by simp)
  · simp
theorem stop_wf (s : S) : ∀ x ∈ (stopS s).2, wfU x := by
  unfold stopS
  split
  · simp
  · split
    · simp
    · exact one_wf (by decide) (by simp)
theorem opened_wf {s : S} {k : Int} (h : Ok s k) (now : Int) (okb : Bool) (r : Int) : ∀ x ∈ (openedS s now okb r).2, wfU x := by
  unfold openedS
  split
  · simp
  · rename_i hc
    obtain ⟨n1, n2⟩ := late_no (show lateI now = false by simpa using (not_or.1 hc).2)
    split
    · simp
    · exact goOn_wf (h.first now n1 n2) h.len
theorem tick_wf {s : S} {k : Int} (h : Ok s k) (now : Int) : ∀ x ∈ (tickS s now).2, wfU x := by
  unfold tickS
  split
  · simp
  · rename_i hc
    split
    · exact one_wf (by decide) (by simp)
    · rename_i h1
      have hb : busy s = true := by
        have h9 : (nextS s).2 = true := by simpa using (not_or.1 hc).1
        unfold nextS at h9
        rw [if_neg h1] at h9
        by_cases g : busy s = true
        · exact g
        · rw [if_neg g] at h9; cases h9
      exact goOn_wf (h.fit hb) h.len
theorem send_wf (s : S) (t : Str) (ht : t.length ≤ 100000) : ∀ x ∈ (sendS s t).2.1, wfU x := by
  unfold sendS
  split
  · split
    · simp
    · exact one_wf (by decide) ht
  · split <;> simp
theorem break_wf {s : S} {k : Int} (h : Ok s k) (now : Int) (l : List O) (hl : l.length ≤ 1000) (hw : ∀ x ∈ l, Run.wfO x) : ∀ x ∈ (breakS s now l).2.1, wfU x := by
  unfold breakS
  split
  · simp
  · split
    · simp
    · split
      · simp
      · rename_i h1 h2 h3
        exact goOn_wf (s := beginS s 5 l now) (fit_chk (Decidable.of_not_not h3) hl hw) h.len
theorem ops_go {w w' : World} {B : Nat → Prop} {v : Value} {l : List O} (h : RSl 3 ROp w B [v] l) (hf : Fr No w w') (hB : ∀ k, B k → k < w.heap.size) : RSl 3 ROp w' B [v] l := (RSl.stable ROp.stable).go h (Kept.of_no hf hB) (fun _ h => h)
end Ln
end Go.Proofs.Ytnfkkonmhinlcaa
