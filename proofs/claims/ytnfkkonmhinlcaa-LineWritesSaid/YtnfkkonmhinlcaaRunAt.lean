/- A runner that was asked until a time. -/
import Derived.Test.YtnfkkonmhinlcaaRunNext
import Derived.Test.YtnfkkonmhinlcaaRunDue
namespace Go.Proofs.Ytnfkkonmhinlcaa
open Go.RowKit Go.Shelf
set_option linter.unusedVariables false
set_option linter.unusedSimpArgs false
namespace Run
/-- The runner at g: it was asked until 'was'. -/
def RW (w : World) (G : Nat → Prop) (g : Nat) (l : List O) (start was : Int) : Prop :=
  RAt w G g l start (upto was (timesR start l)).length (decide (endsR start l ≤ was)) (endsR start l)
/-- Steps that may be, from a time on. -/
structure Fit (l : List O) (start : Int) : Prop where
  st : 0 ≤ start ∧ start ≤ 1099511627776
  ck : chkR start l = 0
  len : l.length ≤ 1000
  wf : ∀ x ∈ l, wfO x
theorem RW.fr {w w' : World} {G : Nat → Prop} {g : Nat} {l : List O} {start was : Int} (h : RW w G g l start was) (hf : Fr No w w') : RW w' G g l start was := RAt.no h hf
theorem RW.far {w w' : World} {F G : Nat → Prop} {g : Nat} {l : List O} {start was : Int} (h : RW w G g l start was) (hf : Fr F w w') (hn : ∀ k, G k → ¬ F k) : RW w' G g l start was := by
  obtain ⟨v, h1, h2, h3, h4, h5⟩ := h
  exact ⟨v, h1.fr hf (hn _ h3), own_fr h2 hf (fun k hk => hn k (h4 k hk).1), h3, h4, fun k hk => Nat.lt_of_lt_of_le (h5 k hk) hf.size⟩
theorem RW.has {w : World} {G : Nat → Prop} {g : Nat} {l : List O} {start was : Int} (h : RW w G g l start was) : G g ∧ ∀ k, G k → k < w.heap.size := by
  obtain ⟨v, h1, h2, h3, h4, h5⟩ := h
  exact ⟨h3, h5⟩
def StepIs (w : World) (G : Nat → Prop) (g : Nat) (l : List O) (start was now : Int) (e : Ending) (w' : World) : Prop :=
  ∃ A c, e = .returned (.slice A (dueT was now (timesR start l)).length c) ∧ w'.ownsRow w.heap.size 69 3 (.slice A (dueT was now (timesR start l)).length c) (dueT was now (timesR start l)).length ((dueT was now (timesR start l)).flatMap encO) ∧ RW w' G g l start now ∧ Fr (fun k => k = g) w w'
theorem step_any (w : World) (G : Nat → Prop) (g : Nat) (l : List O) (start was now : Int) (hF : Fit l start) (hR : RW w G g l start was) (hw : was ≤ now) (hnow : -9223372036854775808 ≤ now ∧ now ≤ 9223372036854775807) :
    Calls Try.prog 56 #[.pointer (some ⟨g, 0, none⟩), .int .i64 now] w (StepIs w G g l start was now) := by
  refine (callsIn_wide.1 (step_in 3 (Nat.le_refl _) w G g l start (endsR start l) now _ _ hF.st hF.ck hF.len hF.wf hR hnow)).mono ?_
  rintro e w' ⟨v, p, m, ⟨rfl, hp, hm⟩, h1, h2, h3⟩
  obtain ⟨u1, u2, u3⟩ := times_up hF.ck
  have hp : p = upto now (timesR start l) := hp
  subst hp
  rw [sel_up u1 hw] at h1
  obtain ⟨A, c, rfl⟩ := own_form h1
  refine ⟨A, c, rfl, h1, ?_, h3⟩
  have hle := upto_le hw (timesR start l)
  have hm : m = (upto now (timesR start l)).length := by omega
  subst hm
  unfold RW
  have ho : (decide (endsR start l ≤ was) || ((upto now (timesR start l)).length == l.length && decide (endsR start l ≤ now))) = decide (endsR start l ≤ now) := by
    by_cases e : endsR start l ≤ now
    · have : (upto now (timesR start l)).length = l.length := by rw [upto_all (fun x hx => Int.le_trans (u2 x hx) e), times_len]
      rw [this, decide_eq_true e]; simp
    · rw [decide_eq_false e, decide_eq_false (by omega : ¬ endsR start l ≤ was)]; simp
  rw [← ho]
  exact h2
theorem next_any (w : World) (G : Nat → Prop) (g : Nat) (l : List O) (start was : Int) (hF : Fit l start) (hR : RW w G g l start was) :
    Calls Try.prog 45 #[.pointer (some ⟨g, 0, none⟩)] w fun e w' => NextIs (nextT was (endsR start l) (timesR start l)) e ∧ Fr No w w' := by
  obtain ⟨u1, u2, u3⟩ := times_up hF.ck
  have hn : nextP (upto was (timesR start l)).length (decide (endsR start l ≤ was)) (endsR start l) (timesR start l) = nextT was (endsR start l) (timesR start l) := by
    unfold nextP nextT
    rw [find_up u1]
    by_cases e : endsR start l ≤ was
    · rw [decide_eq_true e, if_pos rfl, List.find?_eq_none.2 (fun x hx => by have := u2 x hx; simp; omega)]
      simp only
      rw [if_neg (by omega)]
    · rw [decide_eq_false e, if_neg (by decide)]
      generalize (timesR start l).find? (fun x => x.2.1 != 2 && decide (was < x.1)) = r
      cases r with
      | some x => rfl
      | none => simp only; rw [if_pos (by omega)]
  rw [← hn]
  exact callsIn_wide.1 (next_in 3 (Nat.le_refl _) w G g l start (endsR start l) _ _ hF.st hF.ck hF.len hF.wf hR)
theorem rdone_any (w : World) (G : Nat → Prop) (g : Nat) (l : List O) (start was : Int) (hR : RW w G g l start was) :
    Calls Try.prog 57 #[.pointer (some ⟨g, 0, none⟩)] w fun e w' => e = .returned (.bool (decide (endsR start l ≤ was))) ∧ w = w' := done_any _ _ _ _ _ _ _ _ hR
/-- A new one was asked until whatever time ahead of its first. -/
theorem RAt.rw {w : World} {G : Nat → Prop} {g : Nat} {l : List O} {start was : Int} (h : RAt w G g l start 0 false (endsR start l)) (hck : chkR start l = 0) (hw : was < start) : RW w G g l start was := by
  obtain ⟨u1, u2, u3⟩ := times_up hck
  unfold RW
  rw [upto_low u1 hw, decide_eq_false (by omega)]
  exact h
theorem own_lit (w : World) (e : TypeId) (size n : Nat) (cs : Array Value) (h : cs.size = n * size) (hm : n ≤ maxLen) : (w.alloc (.cells cs e)).ownsRow 0 e size (.slice (some ⟨w.heap.size, 0, none⟩) n n) n cs.toList :=
  ⟨by simp [h], .inr ⟨w.heap.size, n, cs, rfl, Nat.zero_le _, heap_alloc_new w _, Nat.le_refl _, hm, by simp [h], List.take_of_length_le (by simp [h])⟩⟩
theorem NewPost.yes {now : Int} {l : List O} {w w' : World} {e : Ending} (h : NewPost now l w e w') (hc : chk now l = 0) :
    ∃ g F, e = .returned (.tuple #[.pointer (some ⟨g, 0, none⟩), .int .i64 0]) ∧ RAt w' F g l now 0 false (endsR now l) ∧ Fr No w w' ∧ ∀ k, F k → New w w' k := by
  rcases h with ⟨_, h⟩ | ⟨h, _⟩
  · exact h
  · exact absurd hc h
theorem NewPost.no {now c : Int} {l : List O} {w w' : World} {e : Ending} (h : NewPost now l w e w') (hc : chk now l = c) (h0 : c ≠ 0) :
    e = .returned (.tuple #[.pointer none, .int .i64 c]) ∧ Fr No w w' := by
  rcases h with ⟨h, _⟩ | ⟨_, h1, h2⟩
  · exact absurd (hc.symm.trans h) h0
  · rw [hc] at h1; exact ⟨h1, h2⟩
theorem StepIs.known {w w' : World} {G : Nat → Prop} {g : Nat} {l : List O} {start was now : Int} {e : Ending} {L : List O} {n : Nat} (h : StepIs w G g l start was now e w') (hd : dueT was now (timesR start l) = L) (hn : L.length = n) :
    ∃ A c, e = .returned (.slice A n c) ∧ w'.ownsRow w.heap.size 69 3 (.slice A n c) n (L.flatMap encO) ∧ RW w' G g l start now ∧ Fr (fun k => k = g) w w' := by
  subst hn
  subst hd
  exact h
theorem lit_new (w : World) (l : List O) (now : Int) (cs : Array Value) (hcs : cs.toList = l.flatMap encO) (hwf : ∀ x ∈ l, wfO x) (hl : l.length ≤ 1000) :
    Calls Try.prog 55 #[.slice (some ⟨w.heap.size, 0, none⟩) l.length l.length, .int .i64 now] (w.alloc (.cells cs 69)) (NewPost now l (w.alloc (.cells cs 69))) := by
  have hsz : cs.size = l.length * 3 := by rw [← encO_len l, ← hcs]; simp
  have ho := own_lit w 69 3 l.length cs hsz (by unfold maxLen; omega)
  rw [hcs] at ho
  refine new_any _ l now _ _ (fun k hk => ?_) (own_ops ho hwf) hl
  have hk : some w.heap.size = some k := hk
  injection hk with hk
  rw [size_alloc]; omega
end Run
end Go.Proofs.Ytnfkkonmhinlcaa
