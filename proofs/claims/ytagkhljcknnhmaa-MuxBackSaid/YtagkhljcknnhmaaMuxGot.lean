/- What a splitter of package mux told so far, at a law's loop. -/
import Derived.Test.YtagkhljcknnhmaaMuxWorks
namespace Go.Proofs.Ytagkhljcknnhmaa
open Go.RowKit
set_option linter.unusedVariables false
set_option linter.unusedSimpArgs false
theorem own_news {w : World} {base : Nat} {e : TypeId} {size n c : Nat} {A : Option Addr} {xs : List Value} (h : w.ownsRow base e size (.slice A n c) n xs) :
    ∀ j u, xs[j]? = some u → ∃ ad, A = some ad ∧ w.cell? (ad.add j) = some u := by
  intro j u hj
  have hc := h
  rcases h.2 with ⟨h0, h1⟩ | ⟨g, cap, cur, h0, _⟩
  · have hl := h.1
    rw [h1, Nat.zero_mul] at hl
    rw [List.eq_nil_of_length_eq_zero hl] at hj
    cases hj
  · injection h0 with h0 _
    subst h0
    exact ⟨_, rfl, hc.cells (g := g) rfl j u hj⟩
/-- 's[:j]' of a text. -/
theorem slice_to {P : Program} (w : World) (T : TypeId) (hT : P.underlying T = some .string) (s : Str) (i : Int) (a : Nat) (hi : i = a) (h : a ≤ s.length) :
    (Instr.slice T (.string ⟨s.toArray⟩) none (some (.int .i64 i)) none).run P w = .ok (.string ⟨(s.take a).toArray⟩) w := by
  rw [run_slice_string_to_if w T ⟨s.toArray⟩ .i64 i hT, if_pos ⟨by omega, by rw [hi]; show (a : Int) ≤ ((s.toArray.size : Nat) : Int); simp; omega⟩]
  rw [ByteArray.extract_mk, show i.toNat = a by omega]
  simp
namespace Mux
theorem encP_one (l : List (Str × Bool)) : ∀ u ∈ l.flatMap encP, u.oneCell' = true := by
  intro u hu
  obtain ⟨x, _, hx⟩ := List.mem_flatMap.1 hu
  simp [encP] at hx
  rcases hx with rfl | rfl <;> rfl
structure MI (W wr : World) (s : Str) (o : Value) (F : Nat → Prop) (p : Nat) (op : Str) (got : List (Str × Bool)) (N : Nat) : Prop where
  run : run 0 [] s = ((p, op), tk got)
  sat : SAt wr F W.heap.size p op
  own : wr.ownsRow 0 48 2 o got.length (got.flatMap encP)
  fr : Fr No W wr
  old : ∀ k, F k → W.heap.size ≤ k
  dis : ∀ k, Of o k → ¬ F k ∧ W.heap.size ≤ k
  sz : sz got ≤ N
theorem MI.new (W : World) : MI W (W.alloc (.cells #[.int .i64 0, .slice none 0 0] 51)) [] (.slice none 0 0) (fun k => k = W.heap.size) 0 [] [] 0 :=
  ⟨rfl, sat_new W, World.ownsRow_nil _ _ _ _, (Fr.refl _ _).alloc _, fun k hk => Nat.le_of_eq (show k = W.heap.size from hk).symm, (fun k hk => (by cases hk)), (by simp [Mux.sz, tot])⟩
section
variable {W wr w1 w2 w3 : World} {s x op op1 : Str} {o v' v'' : Value} {F F1 : Nat → Prop} {p p1 N : Nat} {got L : List (Str × Bool)}
theorem MI.p4 (h : MI W wr s o F p op got N) : p ≤ 4 ∧ op.length ≤ s.length := by
  have := run_le s 0 [] (by decide)
  rw [h.run] at this
  simpa using this
/-- The splitter moves on; the row stays. -/
theorem MI.move (h : MI W wr s o F p op got N) (hs : SAt w1 F1 W.heap.size p1 op1) (hst : Step F wr F1 w1) (hr : Mux.run 0 [] s = ((p1, op1), tk got)) : MI W w1 s o F1 p1 op1 got N := by
  refine ⟨hr, hs, own_fr h.own hst.1 (fun k hk => (h.dis k hk).1), h.fr.trans hst.1 (fun k hk hl => absurd (h.old k hk) (by omega)), fun k hk => ?_, fun k hk => ⟨fun hF => ?_, (h.dis k hk).2⟩, h.sz⟩
  · rcases hst.2 k hk with hk | hk
    · exact h.old k hk
    · exact Nat.le_trans h.fr.size hk.1
  · rcases hst.2 k hF with hF | hF
    · exact (h.dis k hk).1 hF
    · have := (h.own.lt k hk).2; have := hF.1; omega
theorem MI.quiet (h : MI W wr s o F p op got N) (hf : Fr No wr w1) : MI W w1 s o F p op got N :=
  ⟨h.run, h.sat.fr hf (fun _ _ h => h), own_fr h.own hf (fun _ _ h => h), h.fr.then_no hf, h.old, h.dis, h.sz⟩
/-- What was fed, and appended. -/
theorem MI.fed (h : MI W wr s o F p op got N) (hr : (feedR p op [] [] x).1 = (p1, op1)) (hL : flushR (feedR p op [] [] x).2.1 (feedR p op [] [] x).2.2 = L)
    (hs : SAt w1 F1 W.heap.size p1 op1) (hst : Step F wr F1 w1) (h2 : Fr No w1 w2) (ho : w3.ownsRow 0 48 2 v'' (got.length + L.length) (got.flatMap encP ++ L.flatMap encP)) (h3 : Fr (Of o) w2 w3) (h4 : ∀ k, Of v'' k → Of o k ∨ New w2 w3 k) {M : Nat} (hM : N + op.length + 4 * x.length ≤ M) :
    MI W w3 (s ++ x) v'' F1 p1 op1 (got ++ L) M := by
  obtain ⟨r1, r2⟩ := feedR_run x p op [] []
  rw [hr] at r1
  rw [hL] at r2
  have fz := feed_sz x p op [] [] h.p4.1
  rw [hL] at fz
  have f1 : Fr No W w1 := h.fr.trans hst.1 (fun k hk hl => absurd (h.old k hk) (by omega))
  have hdis : ∀ k, Of o k → ¬ F1 k := fun k hk hF => by
    rcases hst.2 k hF with hF | hF
    · exact (h.dis k hk).1 hF
    · have := (h.own.lt k hk).2; have := hF.1; omega
  have hs2 := hs.fr h2 (fun _ _ h => h)
  refine ⟨?_, hs2.fr h3 (fun k hk ho => hdis k ho hk), ?_, (f1.then_no h2).trans h3 (fun k hk hl => absurd (h.dis k hk).2 (by omega)), fun k hk => ?_, fun k hk => ?_, ?_⟩
  · rw [run_append, h.run, tk_append]
    simp at r2
    rw [r2]
    show ((Mux.run p op x).1, _) = _
    rw [← r1]
    simp [tk]
  · rw [List.flatMap_append, List.length_append]; exact ho
  · rcases hst.2 k hk with hk | hk
    · exact h.old k hk
    · exact Nat.le_trans h.fr.size hk.1
  · rcases h4 k hk with hk | hk
    · exact ⟨hdis k hk, (h.dis k hk).2⟩
    · refine ⟨fun hF => ?_, Nat.le_trans (f1.then_no h2).size hk.1⟩
      have := hs2.size k hF
      have := hk.1
      omega
  · have := h.sz
    unfold Mux.sz at this ⊢ fz
    have e : tot (got ++ L) = tot got + tot L := by unfold tot; rw [List.map_append, List.sum_append]
    rw [e, List.length_append]
    simp [tot] at fz this ⊢
    unfold tot at *
    omega
theorem joinR_le {l : List (Str × Bool)} (h : tot l ≤ 1000000) : ∀ x ∈ joinR l, x.1.length ≤ maxLen := by
  intro x hx
  have h1 := (joinR_tot l l.length (Nat.le_refl _)).1
  rw [List.take_length] at h1
  have := tot_mem hx
  unfold maxLen
  omega
theorem MI.le (h : MI W wr s o F p op got N) (hN : N ≤ 1000000) : (∀ x ∈ got, x.1.length ≤ maxLen) ∧ got.length ≤ 10000000 ∧ tot got ≤ 1000000 := by
  have hz := h.sz
  unfold Mux.sz at hz
  exact ⟨fun x hx => Nat.le_trans (tot_mem hx) (by unfold maxLen; omega), by omega, by omega⟩
theorem sz_le {l : List (Str × Bool)} (h : Mux.sz l ≤ N) : (∀ x ∈ l, x.1.length ≤ N) ∧ l.length ≤ N ∧ tot l ≤ N := by
  unfold Mux.sz at h
  exact ⟨fun x hx => Nat.le_trans (tot_mem hx) (by omega), by omega, by omega⟩
end
end Mux
end Go.Proofs.Ytagkhljcknnhmaa
