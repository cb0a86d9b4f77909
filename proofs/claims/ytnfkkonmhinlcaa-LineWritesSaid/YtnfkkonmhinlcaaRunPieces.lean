/- Statement RunnerPieces of package runner. -/
import Derived.Test.YtnfkkonmhinlcaaRunTells
namespace Go.Proofs.Ytnfkkonmhinlcaa
open Go.RowKit
set_option linter.unusedVariables false
set_option linter.unusedSimpArgs false
namespace Run
theorem due_cat {a u v x : Int} {l : List T} (h : Up a l) (hu : u ≤ v) (hv : v ≤ x) : dueT u v l ++ dueT v x l = dueT u x l := by
  induction l generalizing a with
  | nil => rfl
  | cons z l ih =>
    obtain ⟨h1, h2⟩ := h.cons
    have i := ih h2
    by_cases hz : z.1 ≤ v
    · have e1 : dueT v x (z :: l) = dueT v x l := by unfold dueT; rw [List.filter_cons_of_neg (by simp; omega)]
      rw [e1]
      by_cases hp : z.2.1 ≠ 2 ∧ u < z.1
      · have e2 : dueT u v (z :: l) = z.2 :: dueT u v l := by unfold dueT; rw [List.filter_cons_of_pos (by simp; exact ⟨hp.1, hp.2, hz⟩)]; rfl
        have e3 : dueT u x (z :: l) = z.2 :: dueT u x l := by unfold dueT; rw [List.filter_cons_of_pos (by simp; exact ⟨hp.1, hp.2, by omega⟩)]; rfl
        rw [e2, e3, ← i]; rfl
      · have e2 : dueT u v (z :: l) = dueT u v l := by unfold dueT; rw [List.filter_cons_of_neg (by simp; intro h1 h2; exact absurd ⟨h1, h2⟩ hp)]
        have e3 : dueT u x (z :: l) = dueT u x l := by unfold dueT; rw [List.filter_cons_of_neg (by simp; intro h1 h2; exact absurd ⟨h1, h2⟩ hp)]
        rw [e2, e3, i]
    · have e2 : dueT u v (z :: l) = [] := by
        apply due_none
        intro y hy
        rcases List.mem_cons.1 hy with rfl | hy
        · omega
        · have := h2.1 y hy; omega
      rw [e2, List.nil_append]
      unfold dueT
      congr 1
      apply List.filter_congr
      intro y hy
      have : v < y.1 := by
        rcases List.mem_cons.1 hy with rfl | hy
        · omega
        · have := h2.1 y hy; omega
      simp [this, show u < y.1 by omega]
theorem due_same {u : Int} {l : List T} : dueT u u l = [] := by
  unfold dueT
  rw [List.filter_eq_nil_iff.2 (fun x hx => by simp)]
  rfl
/-- All that is no wait. -/
def acts (l : List O) : List O := l.filter (fun x => x.1 != 2)
theorem due_all {start u v : Int} {l : List O} (hck : chkR start l = 0) (hu : u < start) (hv : endsR start l ≤ v) : dueT u v (timesR start l) = acts l := by
  obtain ⟨u1, u2, u3⟩ := times_up hck
  have : dueT u v (timesR start l) = ((timesR start l).filter (fun x => x.2.1 != 2)).map (·.2) := by
    unfold dueT
    congr 1
    apply List.filter_congr
    intro y hy
    have := u1.1 y hy
    have := u2 y hy
    simp [show u < y.1 by omega, show y.1 ≤ v by omega]
  rw [this]
  unfold acts
  conv => rhs; rw [← times_snd start l]
  rw [List.filter_map]
  rfl
theorem due_over {start u v : Int} {l : List O} (hck : chkR start l = 0) (hu : endsR start l ≤ u) : dueT u v (timesR start l) = [] := by
  obtain ⟨u1, u2, u3⟩ := times_up hck
  unfold dueT
  rw [List.filter_eq_nil_iff.2 (fun x hx => by have := u2 x hx; simp; intro _ h; omega)]
  rfl
theorem due_len {u v start : Int} {l : List O} : (dueT u v (timesR start l)).length ≤ l.length := by
  unfold dueT
  rw [List.length_map]
  exact Nat.le_trans (List.length_filter_le _ _) (by rw [times_len]; exact Nat.le_refl _)
theorem acts_take {l : List O} {k : Nat} (h : k < l.length) : acts (l.take (k + 1)) = if (l[k].1 != 2) = true then acts (l.take k) ++ [l[k]] else acts (l.take k) := by
  unfold acts
  rw [List.take_succ_eq_append_getElem h, List.filter_append]
  cases e : l[k].1 != 2 <;> simp [List.filter, e]
theorem acts_len (l : List O) : (acts l).length ≤ l.length := List.length_filter_le _ _
theorem own_zero {w : World} {base : Nat} {e : TypeId} {size n : Nat} {v : Value} {xs : List Value} (h : w.ownsRow base e size v n xs) : w.ownsRow 0 e size v n xs := by
  obtain ⟨h1, h2⟩ := h
  refine ⟨h1, ?_⟩
  rcases h2 with h2 | ⟨g, cap, cur, a, b, c⟩
  · exact .inl h2
  · exact .inr ⟨g, cap, cur, a, Nat.zero_le _, c⟩
/-- What was got so far, and the two runners. -/
structure PI (W wr : World) (G G' : Nat → Prop) (g g' : Nat) (l : List O) (v : Int) (o : Value) (got : List O) : Prop where
  r : RW wr G g l 5 v
  q : RW wr G' g' l 5 4
  gv : got = dueT 4 v (timesR 5 l)
  own : wr.ownsRow 0 69 3 o got.length (got.flatMap encO)
  dis : ∀ k, Of o k → (¬ G k ∧ ¬ G' k) ∧ W.heap.size ≤ k
  fr : Fr No W wr
theorem PI.stepped {W wr w1 w3 : World} {G G' : Nat → Prop} {g g' : Nat} {l L got : List O} {v u : Int} {o o' : Value} (h : PI W wr G G' g g' l v o got) (hck : chkR 5 l = 0) (hv : 4 ≤ v) (hu : v ≤ u) (hd : ∀ k, G' k → ¬ G k) (hG : ∀ k, G k → W.heap.size ≤ k)
    (h1 : RW w1 G g l 5 u) (h2 : Fr (fun k => k = g) wr w1) (hL : L = dueT v u (timesR 5 l))
    (h3 : w3.ownsRow 0 69 3 o' (got.length + L.length) (got.flatMap encO ++ L.flatMap encO)) (h4 : Fr (Of o) w1 w3) (h5 : ∀ k, Of o' k → Of o k ∨ New w1 w3 k) : PI W w3 G G' g g' l u o' (got ++ L) := by
  refine ⟨h1.far h4 (fun k hk he => (h.dis k he).1.1 hk), ?_, ?_, ?_, fun k hk => ?_, ?_⟩
  · exact (h.q.far h2 (fun k hk he => hd k hk (by have he : k = g := he; rw [he]; exact h1.has.1))).far h4 (fun k hk he => (h.dis k he).1.2 hk)
  · rw [h.gv, hL]; exact due_cat (times_up hck).1 hv hu
  · rw [List.length_append, List.flatMap_append]; exact h3
  · rcases h5 k hk with hk | hk
    · exact h.dis k hk
    · have a1 := h1.has.2
      have a2 := (h.q.far h2 (fun k hk he => hd k hk (by have he : k = g := he; rw [he]; exact h1.has.1))).has.2
      refine ⟨⟨fun x => ?_, fun x => ?_⟩, ?_⟩
      · have := a1 k x; have := hk.1; omega
      · have := a2 k x; have := hk.1; omega
      · exact Nat.le_trans (Nat.le_trans h.fr.size h2.size) hk.1
  · refine (h.fr.trans h2 fun k hk hl => ?_).trans h4 fun k hk hl => ?_
    · have hk : k = g := hk
      have := hG g h1.has.1
      omega
    · have := (h.dis k hk).2; omega
theorem PI.quiet {W wr w1 : World} {G G' : Nat → Prop} {g g' : Nat} {l got : List O} {v : Int} {o : Value} (h : PI W wr G G' g g' l v o got) (hf : Fr No wr w1) : PI W w1 G G' g g' l v o got :=
  ⟨h.r.fr hf, h.q.fr hf, h.gv, own_fr h.own hf (fun _ _ h => h), h.dis, h.fr.then_no hf⟩
theorem PI.len {W wr : World} {G G' : Nat → Prop} {g g' : Nat} {l got : List O} {v : Int} {o : Value} (h : PI W wr G G' g g' l v o got) : got.length ≤ l.length := by rw [h.gv]; exact due_len
end Run
end Go.Proofs.Ytnfkkonmhinlcaa
