/- Package timer: the law's example, and the law TimerNone. Printed by gen_tmx.py. -/
import Derived.Test.YtkmlmjglipmdcaaTmW
namespace Go.Proofs.Ytkmlmjglipmdcaa
open Go.RowKit
set_option linter.unusedVariables false
set_option linter.unusedSimpArgs false
namespace Tm
open Sls
/-- A timer that the call has made, as it is. -/
structure Now (W w : World) (F : Nat → Prop) (b : Nat) (most : Int) (L : List A2) : Prop where
  at' : TAt w F b most L
  fr : Fr No W w
  new : ∀ k, F k → W.heap.size ≤ k
section
variable {W w w' : World} {F F' : Nat → Prop} {b : Nat} {most : Int} {L L' : List A2} {e : Ending}
theorem Now.no (h : Now W w F b most L) (hf : Fr No w w') : Now W w' F b most L := ⟨h.at'.no hf, h.fr.then_no hf, h.new⟩
theorem Now.step (h : Now W w F b most L) (ht : TAt w' F' b most L') (hs : Step F w F' w') : Now W w' F' b most L' :=
  ⟨ht, h.fr.trans hs.1 (fun k hk hl => absurd (h.new k hk) (by omega)), fun k hk => (hs.2 k hk).elim (h.new k) (fun g => Nat.le_trans h.fr.size g.1)⟩
theorem made_now (h : Made most w e w') : ∃ b, e = .returned (.tuple #[.pointer (some ⟨b, 0, none⟩), .int .i64 0]) ∧ Now w w' (New w w') b most [] := by
  obtain ⟨b, rfl, h1, h2⟩ := h
  exact ⟨b, rfl, h1, h2, fun k hk => hk.1⟩
def NActs (W : World) (F : Nat → Prop) (w : World) (b : Nat) (most : Int) (L : List A2) (r : Value) (e : Ending) (w' : World) : Prop := ∃ F', e = .returned r ∧ Now W w' F' b most L ∧ Step F w F' w'
theorem Now.set (h : Now W w F b most L) (id t : Int) : Calls Try.prog 8 #[.pointer (some ⟨b, 0, none⟩), .int .i64 id, .int .i64 t] w (NActs W F w b most (setR most L id t).1 (.int .i64 (setR most L id t).2)) := by
  refine (set_any h.at' id t).mono ?_
  rintro e w' ⟨F', rfl, h1, h2⟩
  exact ⟨F', rfl, h.step h1 h2, h2⟩
theorem Now.cancel (h : Now W w F b most L) (id : Int) : Calls Try.prog 13 #[.pointer (some ⟨b, 0, none⟩), .int .i64 id] w (NActs W F w b most (wo L id) (.bool (hasId L id))) := by
  refine (cancel_any h.at' id).mono ?_
  rintro e w' ⟨F', rfl, h1, h2⟩
  exact ⟨F', rfl, h.step h1 h2, h2⟩
/-- Numbers told, off the timer's blocks. -/
structure Told (W w : World) (F : Nat → Prop) (v : Value) (l : List Int) : Prop where
  own : w.ownsRow 0 3 1 v l.length (l.map encI)
  off : ∀ k, Of v k → ¬ F k
theorem Told.no {v : Value} {l : List Int} (h : Told W w F v l) (hf : Fr No w w') : Told W w' F v l := ⟨own_fr h.own hf (fun _ _ h => h), h.off⟩
theorem Told.step {v : Value} {l : List Int} (h : Told W w F v l) (hs : Step F w F' w') : Told W w' F' v l :=
  ⟨own_fr h.own hs.1 h.off, fun k hk g => (hs.2 k g).elim (h.off k hk) (fun g => by have := (h.own.lt k hk).2; have := g.1; omega)⟩
def NDue (W : World) (F : Nat → Prop) (w : World) (b : Nat) (most : Int) (L : List A2) (l : List Int) (n : Nat) (e : Ending) (w' : World) : Prop := ∃ F' A c, e = .returned (.slice A n c) ∧ Told W w' F' (.slice A n c) l ∧ Now W w' F' b most L ∧ Step F w F' w'
theorem Now.due (h : Now W w F b most L) (now : Int) (l : List Int) (n : Nat) (hl : l = ids (dueL L now)) (hn : n = l.length) : Calls Try.prog 9 #[.pointer (some ⟨b, 0, none⟩), .int .i64 now] w (NDue W F w b most (restL L now) l n) := by
  refine (due_any h.at' now).mono ?_
  rintro e w' ⟨F', v, rfl, h1, h2, h3⟩
  rw [← hl] at h1
  obtain ⟨A, c, rfl⟩ := own_form h1.own
  subst hn
  exact ⟨F', A, c, rfl, ⟨h1.own, h1.off⟩, h.step h2 h3, h3⟩
theorem told_cell {A : Option Addr} {n c i : Nat} {l : List Int} (h : Told W w F (.slice A n c) l) (hi : i < l.length) : ∃ g, A = some ⟨g, 0, none⟩ ∧ w.cell? ⟨g, i, none⟩ = some (.int .i64 l[i]) := by
  have ho := h.own
  rcases ho.2 with ⟨h1, h2⟩ | ⟨g, cap, cur, h1, _⟩
  · omega
  · injection h1 with h1 h2 h3
    subst h1
    have := own_cell (n := l.length) (c := c) (i := i) (xs := l.map encI) (by rw [← h2]; rw [h2]; rw [h2] at ho; exact ho) (by rw [List.length_map]; exact hi)
    exact ⟨g, rfl, by rw [this, List.getElem_map]; rfl⟩
theorem x0 : setR 2 [] 5 30 = ([(5, 30)], 0) := by kernel_rfl
theorem x1 : setR 2 [(5, 30)] 7 20 = ([(7, 20), (5, 30)], 0) := by kernel_rfl
theorem x2 : setR 2 [(7, 20), (5, 30)] 9 1 = ([(7, 20), (5, 30)], 6) := by kernel_rfl
theorem x3 : setR 2 [(7, 20), (5, 30)] 5 (-1) = ([(7, 20), (5, 30)], 1) := by kernel_rfl
theorem x4 : setR 2 [(7, 20), (5, 30)] 5 10 = ([(5, 10), (7, 20)], 0) := by kernel_rfl
theorem x5 : restL [(5, 10), (7, 20)] 9 = [(5, 10), (7, 20)] := by kernel_rfl
theorem x6 : restL [(5, 10), (7, 20)] 20 = [] := by kernel_rfl
set_option maxRecDepth 100000 in
set_option maxHeartbeats 8000000 in
theorem works_any (W : World) : Calls Try.prog 6 #[] W fun e w' => e = .returned (.bool true) ∧ Fr No W w' := by
  go_enter Try.func6, Try.ntmps6
  go_wp2_with fail
  refine (new_yes 2 (by decide) (by decide) _).mono ?_
  intro e w0 hm
  obtain ⟨b, rfl, hn⟩ := made_now hm
  have H0 := Lib.hid hn
  clear hm hn
  go_wp2_with fail
  refine (new_no 0 (by decide) _).mono ?_
  rintro e w1 ⟨rfl, hw⟩
  subst hw
  go_wp2_with fail
  have hs := H0.out.set 5 30
  rw [x0] at hs
  refine hs.mono ?_
  clear hs
  rintro e w1 ⟨F1, rfl, hn, -⟩
  have H1 := Lib.hid hn
  clear hn H0
  go_wp2_with fail
  have hs := H1.out.set 7 20
  rw [x1] at hs
  refine hs.mono ?_
  clear hs
  rintro e w1 ⟨F2, rfl, hn, -⟩
  have H2 := Lib.hid hn
  clear hn H1
  go_wp2_with fail
  have hs := H2.out.set 9 1
  rw [x2] at hs
  refine hs.mono ?_
  clear hs
  rintro e w1 ⟨F3, rfl, hn, -⟩
  have H3 := Lib.hid hn
  clear hn H2
  go_wp2_with fail
  have hs := H3.out.set 5 (-1)
  rw [x3] at hs
  refine hs.mono ?_
  clear hs
  rintro e w1 ⟨F4, rfl, hn, -⟩
  have H4 := Lib.hid hn
  clear hn H3
  go_wp2_with fail
  have hs := H4.out.set 5 10
  rw [x4] at hs
  refine hs.mono ?_
  clear hs
  rintro e w1 ⟨F5, rfl, hn, -⟩
  have H5 := Lib.hid hn
  clear hn H4
  go_wp2_with fail
  refine (next_any H5.out.at').mono ?_
  rintro e w2 ⟨rfl, hf⟩
  have H6 := Lib.hid (H5.out.no hf)
  clear hf H5
  simp only [headR]
  go_wp2_with fail
  have hs := H6.out.due 9 [] 0 (by kernel_rfl) rfl
  rw [x5] at hs
  refine hs.mono ?_
  clear hs
  rintro e w3 ⟨F7, A7, c7, rfl, -, hn, -⟩
  have H7 := Lib.hid hn
  clear hn H6
  go_wp2_with fail
  have hs := H7.out.due 20 [5, 7] 2 (by kernel_rfl) rfl
  rw [x6] at hs
  refine hs.mono ?_
  clear hs
  rintro e w4 ⟨F8, A8, c8, rfl, ht, hn, -⟩
  have H8 := Lib.hid hn
  obtain ⟨g, rfl, k0⟩ := told_cell ht (i := 0) (by decide)
  obtain ⟨g', e, k1⟩ := told_cell ht (i := 1) (by decide)
  injection e with e
  injection e with e _
  subst e
  simp only [List.getElem_cons_zero, List.getElem_cons_succ] at k0 k1
  clear hn H7 ht
  have HL := Lib.hid (len_all H8.out.at')
  have HC := Lib.hid (H8.out.cancel 5)
  go_wp2_with fail
  refine HL.out.mono ?_
  rintro e w5 ⟨rfl, hw⟩
  subst hw
  go_wp2_with fail
  refine HC.out.mono ?_
  rintro e w5 ⟨F9, rfl, hn, -⟩
  have H9 := Lib.hid hn
  clear hn
  simp only [hasId, List.any_nil]
  go_wp2_with fail
  go_ret
  exact ⟨rfl, H9.out.fr⟩
set_option maxRecDepth 100000 in
theorem none_any (W : World) (id t : Int) : Calls Try.prog 5 #[.int .i64 id, .int .i64 t] W fun e w' => e = .returned (.bool true) ∧ Fr No W w' := by
  go_enter Try.func5, Try.ntmps5
  go_wp2_with fail
  refine (next_nil _).mono ?_
  rintro e w1 ⟨rfl, hw⟩
  subst hw
  go_wp2_with fail
  refine (at_nil _ id).mono ?_
  rintro e w1 ⟨rfl, hw⟩
  subst hw
  go_wp2_with fail
  refine (set_nil _ id t).mono ?_
  rintro e w1 ⟨rfl, hw⟩
  subst hw
  go_wp2_with fail
  refine (cancel_nil _ id).mono ?_
  rintro e w1 ⟨rfl, hw⟩
  subst hw
  go_wp2_with fail
  refine (len_nil _).mono ?_
  rintro e w1 ⟨rfl, hw⟩
  subst hw
  go_wp2_with fail
  refine (due_nil _ t).mono ?_
  rintro e w1 ⟨rfl, hw⟩
  subst hw
  go_wp2_with fail
  refine (works_any _).mono ?_
  rintro e w1 ⟨rfl, hf⟩
  have HF := Lib.hid hf
  clear hf
  go_wp2_with fail
  go_ret
  exact ⟨rfl, HF.out⟩
end
theorem walk_TimerNone (W : World) (v0 : Value) (x0 : Int) (h0 : (RInt .i64) W (Ahead W.heap.size) [v0] x0) (v1 : Value) (x1 : Int) (h1 : (RInt .i64) W (Ahead W.heap.size) [v1] x1) : Calls Try.prog 5 #[v0, v1] W fun e w' => e = .returned (.bool true) ∧ Fr No W w' := by
  obtain ⟨h0, _⟩ := h0
  obtain ⟨h1, _⟩ := h1
  injection h0 with h0
  injection h1 with h1
  subst h0 h1
  exact none_any _ _ _
end Tm
end Go.Proofs.Ytkmlmjglipmdcaa
