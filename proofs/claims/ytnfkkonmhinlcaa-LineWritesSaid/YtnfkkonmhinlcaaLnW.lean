/- Package line: the example of its laws. Printed by gen_lnw.py. -/
import Derived.Test.YtnfkkonmhinlcaaLnT
namespace Go.Proofs.Ytnfkkonmhinlcaa
open Go.RowKit
set_option linter.unusedVariables false
set_option linter.unusedSimpArgs false
namespace Ln
open Run (O ROp timesR endsR dueT nextT chk chkR Fit)
/-- A line that the call has made, as it is. -/
structure Now (W w : World) (G : Nat → Prop) (g : Nat) (s : S) : Prop where
  at' : LW w G g s
  fr : Fr No W w
  new : ∀ k, G k → W.heap.size ≤ k
/-- A row that an act told, off the line's blocks. -/
structure Row (w : World) (G : Nat → Prop) (v : Value) (l : List U) : Prop where
  own : w.ownsRow 0 65 2 v l.length (l.flatMap encU)
  off : ∀ k, Of v k → k < w.heap.size ∧ ¬ G k
section
variable {W w w' : World} {G G' : Nat → Prop} {g : Nat} {s s' : S} {v : Value} {l : List U}
theorem Now.no (h : Now W w G g s) (hf : Fr No w w') : Now W w' G g s := ⟨h.at'.no hf, h.fr.then_no hf, h.new⟩
theorem Now.step (h : Now W w G g s) (ha : LW w' G' g s') (hs : Step G w G' w') : Now W w' G' g s' :=
  ⟨ha, h.fr.trans hs.1 (fun k hk hl => absurd (h.new k hk) (by omega)), fun k hk => (hs.2 k hk).elim (h.new k) (fun g => Nat.le_trans h.fr.size g.1)⟩
theorem Row.step (h : Row w G v l) (hs : Step G w G' w') : Row w' G' v l :=
  ⟨own_fr h.own hs.1 (fun k hk => (h.off k hk).2), fun k hk => ⟨Nat.lt_of_lt_of_le (h.off k hk).1 hs.1.size, fun hg => (hs.2 k hg).elim (h.off k hk).2 (fun e => by have := (h.off k hk).1; have := e.1; omega)⟩⟩
theorem Row.no (h : Row w G v l) (hf : Fr No w w') : Row w' G v l := ⟨own_fr h.own hf (fun _ _ h => h), fun k hk => ⟨Nat.lt_of_lt_of_le (h.off k hk).1 hf.size, (h.off k hk).2⟩⟩
theorem Row.form (h : Row w G v l) : ∃ A c, v = .slice A l.length c := own_form h.own
theorem Now.act {f : Value → Value} {e : Ending} (h : Now W w G g s) (ha : LAct w G g s' l f e w') : ∃ v G', e = .returned (f v) ∧ Now W w' G' g s' ∧ Row w' G' v l ∧ Step G w G' w' := by
  obtain ⟨v, G', h1, h2, ⟨h3, h4⟩, h5⟩ := ha
  exact ⟨v, G', h1, h.step h2 h5, ⟨h3, fun k hk => ⟨(h4 k hk).1.2, (h4 k hk).2⟩⟩, h5⟩
theorem new_now {r : S × Int} {e : Ending} (h : NewIs r w e w') (h0 : r.2 = 0) : ∃ g G, e = .returned (.tuple #[.pointer (some ⟨g, 0, none⟩), .int .i64 0]) ∧ Now w w' G g r.1 := by
  rcases h with ⟨_, g, G, h1, h2, h3, h4⟩ | ⟨h1, _⟩
  · exact ⟨g, G, h1, h2, h3, fun k hk => (h4 k hk).1⟩
  · exact absurd h0 h1
theorem new_not {r : S × Int} {e : Ending} (h : NewIs r w e w') (h0 : r.2 ≠ 0) : e = .returned (.tuple #[.pointer none, .int .i64 r.2]) ∧ Fr No w w' := by
  rcases h with ⟨h1, _⟩ | ⟨_, h2⟩
  · exact absurd h1 h0
  · exact h2
/-- A row told, beside a literal. -/
theorem same_lit (h : Row w G v l) (hl : ∀ x ∈ l, wfU x) (m : List U) (hm : ∀ x ∈ m, wfU x) (cs : Array Value) (hcs : cs.toList = m.flatMap encU) (n : Nat) (hn : n = m.length) (hn2 : m.length ≤ 1000) {X : World} (hf : Fr No w X) :
    Calls Try.prog 26 #[v, .slice (some ⟨X.heap.size, 0, none⟩) n n] (X.alloc (.cells cs 65)) fun e w' => e = .returned (.bool (decide (l = m))) ∧ Fr No X w' := by
  subst hn
  have hX := (Fr.refl No X).alloc (.cells cs 65)
  have o1 := own_outs (own_fr h.own (hf.then_no hX) (fun _ _ h => h)) hl
  have hz : cs.size = m.length * 2 := by rw [← Array.length_toList, hcs, encU_len]
  have o2 := Run.own_lit X 65 2 m.length cs hz (by unfold maxLen; omega)
  rw [hcs] at o2
  refine (same_any _ _ l m _ _ _ o1 (own_outs o2 hm)).mono ?_
  rintro e w' ⟨rfl, n, rfl⟩
  exact ⟨rfl, hX.drewN n⟩
end
abbrev exF : List O := [(1, [105], 0), (2, [], 1)]
theorem ex0 : newS 2 8 0 [105, 92, 100] = ((⟨2, 8, 0, 0, 0, 0, exF, [], 0, 0, []⟩ : S), 0) := by rfl
theorem ex1 : newS 0 0 0 [] = (zeroS, 2) := by rfl
theorem ex2 : newS 1 1 0 [92, 113] = (zeroS, 3) := by rfl
theorem ex3 : startS (⟨2, 8, 0, 0, 0, 0, exF, [], 0, 0, []⟩ : S) = ((⟨2, 8, 0, 2, 0, 0, exF, [], 0, 0, []⟩ : S), [(1, [])]) := by rfl
theorem ex4 : openedS (⟨2, 8, 0, 2, 0, 0, exF, [], 0, 0, []⟩ : S) 10 false 0 = ((⟨2, 8, 0, 1, 1, 12, exF, [], 0, 0, []⟩ : S), []) := by rfl
theorem ex5 : nextS (⟨2, 8, 0, 1, 1, 12, exF, [], 0, 0, []⟩ : S) = (12, true) := by rfl
theorem ex6 : tickS (⟨2, 8, 0, 1, 1, 12, exF, [], 0, 0, []⟩ : S) 12 = ((⟨2, 8, 0, 2, 1, 12, exF, [], 0, 0, []⟩ : S), [(1, [])]) := by rfl
theorem ex7 : openedS (⟨2, 8, 0, 2, 1, 12, exF, [], 0, 0, []⟩ : S) 12 true 0 = ((⟨2, 8, 0, 3, 0, 12, exF, exF, 12, 12, []⟩ : S), [(3, [105])]) := by rfl
theorem ex8 : sendS (⟨2, 8, 0, 3, 0, 12, exF, exF, 12, 12, []⟩ : S) [97, 98, 99] = ((⟨2, 8, 0, 3, 0, 12, exF, exF, 12, 12, [97, 98, 99]⟩ : S), [], true) := by rfl
theorem ex9 : tickS (⟨2, 8, 0, 3, 0, 12, exF, exF, 12, 12, [97, 98, 99]⟩ : S) 13 = ((⟨2, 8, 0, 4, 0, 12, exF, [], 12, 13, []⟩ : S), [(3, [97, 98, 99])]) := by rfl
theorem ex10 : breakS (⟨2, 8, 0, 4, 0, 12, exF, [], 12, 13, []⟩ : S) 13 [(3, [], 0)] = ((⟨2, 8, 0, 4, 0, 12, exF, [], 13, 13, []⟩ : S), [(4, [])], 0) := by rfl
theorem ex11 : lostS (⟨2, 8, 0, 4, 0, 12, exF, [], 13, 13, []⟩ : S) 14 0 = ((⟨2, 8, 0, 1, 1, 16, exF, [], 13, 13, []⟩ : S), true) := by rfl
theorem ex12 : stopS (⟨2, 8, 0, 1, 1, 16, exF, [], 13, 13, []⟩ : S) = ((⟨2, 8, 0, 0, 1, 16, exF, [], 13, 13, []⟩ : S), []) := by rfl
theorem exOk : Ok (⟨2, 8, 0, 0, 0, 0, exF, [], 0, 0, []⟩ : S) 0 := by
  have h := newS_ok (show (newS 2 8 0 [105, 92, 100]).2 = 0 by rw [ex0])
  rw [ex0] at h
  exact h
theorem fit_lit : Fit [(3, [], 0)] 13 := ⟨by decide, by rfl, by decide, by intro x hx; simp at hx; subst hx; exact ⟨by decide, by decide, by decide⟩⟩
theorem break_lit {X : World} {G : Nat → Prop} {g : Nat} {s : S} {k : Int} (h : LW X G g s) (hk : Ok s k) : Calls Try.prog 14 #[.pointer (some ⟨g, 0, none⟩), .int .i64 13, .slice (some ⟨X.heap.size, 0, none⟩) 1 1] (X.alloc (.cells #[.int .i64 3, .string ⟨#[]⟩, .int .i64 0] 69)) (LAct (X.alloc (.cells #[.int .i64 3, .string ⟨#[]⟩, .int .i64 0] 69)) G g (breakS s 13 [(3, [], 0)]).1 (breakS s 13 [(3, [], 0)]).2.1 (fun v => .tuple #[v, .int .i64 (breakS s 13 [(3, [], 0)]).2.2])) := by
  have ho := Run.own_lit X 69 3 1 #[.int .i64 3, .string ⟨#[]⟩, .int .i64 0] rfl (by decide)
  refine break_any (h.no ((Fr.refl No X).alloc _)) hk 13 (.slice (some ⟨X.heap.size, 0, none⟩) 1 1) [(3, [], 0)] (Of (.slice (some ⟨X.heap.size, 0, none⟩) 1 1)) (fun k hk => ?_) (Run.own_ops (l := [(3, [], 0)]) ho fit_lit.wf) (by decide)
  have hk : some X.heap.size = some k := hk
  injection hk with hk
  rw [size_alloc]; omega
set_option maxRecDepth 100000 in
set_option maxHeartbeats 8000000 in
theorem works_any (W : World) : Calls Try.prog 6 #[] W fun e w' => e = .returned (.bool true) ∧ Fr No W w' := by
  go_enter Try.func6, Try.ntmps6
  go_wp2_with fail
  refine (new_any [] [105, 92, 100] 0 0 0 0 0 2 8 0 _).mono ?_
  intro e w0 hm
  rw [ex0] at hm
  obtain ⟨g, G0, rfl, hn⟩ := new_now hm rfl
  have H0 := Lib.hid hn
  clear hm hn
  go_wp2_with fail
  refine (new_any [] [] 0 0 0 0 0 0 0 0 _).mono ?_
  intro e w1 hm
  rw [ex1] at hm
  obtain ⟨rfl, hf⟩ := new_not hm (by decide)
  have H1 := Lib.hid (H0.out.no hf)
  clear hm hf H0
  go_wp2_with fail
  refine (new_any [] [92, 113] 0 0 0 0 0 1 1 0 _).mono ?_
  intro e w2 hm
  rw [ex2] at hm
  obtain ⟨rfl, hf⟩ := new_not hm (by decide)
  have H2 := Lib.hid (H1.out.no hf)
  have K2 := Lib.hid exOk
  clear hm hf H1
  go_wp2_with fail
  refine (start_any H2.out.at').mono ?_
  intro e w3 ht
  rw [ex3] at ht
  obtain ⟨v, G3, rfl, h, r, hs⟩ := H2.out.act ht
  obtain ⟨A3, c3, rfl⟩ := r.form
  have R3 := Lib.hid r
  have H3 := Lib.hid h
  have k3 := K2.out.start
  rw [ex3] at k3
  have K3 := Lib.hid k3
  clear k3
  clear ht r h hs H2 K2
  go_wp2_with fail
  refine (opened_any H3.out.at' K3.out (by decide) 10 false 0 (by decide)).mono ?_
  intro e w4 ht
  rw [ex4] at ht
  obtain ⟨v, G4, rfl, h, r, hs⟩ := H3.out.act ht
  have R3' := Lib.hid (R3.out.step hs)
  clear R3
  have R3 := R3'
  clear R3'
  obtain ⟨A4, c4, rfl⟩ := r.form
  have R4 := Lib.hid r
  have H4 := Lib.hid h
  have k4 := K3.out.opened (now := 10) false 0
  rw [ex4] at k4
  have K4 := Lib.hid k4
  clear k4
  clear ht r h hs H3 K3
  have NX := Lib.hid (next_any H4.out.at' K4.out.fit)
  rw [ex5] at NX
  go_wp2_with fail
  refine (NX.out).mono ?_
  rintro e w5 ⟨rfl, hf⟩
  have H5 := Lib.hid (H4.out.no hf)
  have K5 := K4
  have R3' := Lib.hid (R3.out.no hf)
  clear R3
  have R3 := R3'
  clear R3'
  have R4' := Lib.hid (R4.out.no hf)
  clear R4
  have R4 := R4'
  clear R4'
  clear hf H4 K4
  go_wp2_with fail
  refine (tick_any H5.out.at' K5.out 12).mono ?_
  intro e w6 ht
  rw [ex6] at ht
  obtain ⟨v, G6, rfl, h, r, hs⟩ := H5.out.act ht
  have R3' := Lib.hid (R3.out.step hs)
  clear R3
  have R3 := R3'
  clear R3'
  have R4' := Lib.hid (R4.out.step hs)
  clear R4
  have R4 := R4'
  clear R4'
  obtain ⟨A6, c6, rfl⟩ := r.form
  have R6 := Lib.hid r
  have H6 := Lib.hid h
  have k6 := K5.out.tick (now := 12)
  rw [ex6] at k6
  have K6 := Lib.hid k6
  clear k6
  clear ht r h hs H5 K5
  go_wp2_with fail
  refine (opened_any H6.out.at' K6.out (by decide) 12 true 0 (by decide)).mono ?_
  intro e w7 ht
  rw [ex7] at ht
  obtain ⟨v, G7, rfl, h, r, hs⟩ := H6.out.act ht
  have R3' := Lib.hid (R3.out.step hs)
  clear R3
  have R3 := R3'
  clear R3'
  have R4' := Lib.hid (R4.out.step hs)
  clear R4
  have R4 := R4'
  clear R4'
  have R6' := Lib.hid (R6.out.step hs)
  clear R6
  have R6 := R6'
  clear R6'
  obtain ⟨A7, c7, rfl⟩ := r.form
  have R7 := Lib.hid r
  have H7 := Lib.hid h
  have k7 := K6.out.opened (now := 12) true 0
  rw [ex7] at k7
  have K7 := Lib.hid k7
  clear k7
  clear ht r h hs H6 K6
  go_wp2_with fail
  refine (send_any H7.out.at' K7.out.len [97, 98, 99] (by decide)).mono ?_
  intro e w8 ht
  rw [ex8] at ht
  obtain ⟨v, G8, rfl, h, r, hs⟩ := H7.out.act ht
  have R3' := Lib.hid (R3.out.step hs)
  clear R3
  have R3 := R3'
  clear R3'
  have R4' := Lib.hid (R4.out.step hs)
  clear R4
  have R4 := R4'
  clear R4'
  have R6' := Lib.hid (R6.out.step hs)
  clear R6
  have R6 := R6'
  clear R6'
  have R7' := Lib.hid (R7.out.step hs)
  clear R7
  have R7 := R7'
  clear R7'
  obtain ⟨A8, c8, rfl⟩ := r.form
  have R8 := Lib.hid r
  have H8 := Lib.hid h
  have k8 := K7.out.send [97, 98, 99]
  rw [ex8] at k8
  have K8 := Lib.hid k8
  clear k8
  clear ht r h hs H7 K7
  go_wp2_with fail
  refine (lheld_any H8.out.at').mono ?_
  rintro e w9 ⟨rfl, rfl⟩
  go_wp2_with fail
  refine (tick_any H8.out.at' K8.out 13).mono ?_
  intro e w9 ht
  rw [ex9] at ht
  obtain ⟨v, G9, rfl, h, r, hs⟩ := H8.out.act ht
  have R3' := Lib.hid (R3.out.step hs)
  clear R3
  have R3 := R3'
  clear R3'
  have R4' := Lib.hid (R4.out.step hs)
  clear R4
  have R4 := R4'
  clear R4'
  have R6' := Lib.hid (R6.out.step hs)
  clear R6
  have R6 := R6'
  clear R6'
  have R7' := Lib.hid (R7.out.step hs)
  clear R7
  have R7 := R7'
  clear R7'
  have R8' := Lib.hid (R8.out.step hs)
  clear R8
  have R8 := R8'
  clear R8'
  obtain ⟨A9, c9, rfl⟩ := r.form
  have R9 := Lib.hid r
  have H9 := Lib.hid h
  have k9 := K8.out.tick (now := 13)
  rw [ex9] at k9
  have K9 := Lib.hid k9
  clear k9
  clear ht r h hs H8 K8
  go_wp2_with fail
  refine (lstate_any H9.out.at').mono ?_
  rintro e w10 ⟨rfl, rfl⟩
  have XB := Lib.hid (fun (X : World) (hf : Fr No w9 X) => break_lit (H9.out.at'.no hf) K9.out)
  rw [ex10] at XB
  go_wp2_with fail
  refine (XB.out _ (Fr.refl _ _)).mono ?_
  intro e w10 ht
  have H9' := Lib.hid (H9.out.no ((Fr.refl No _).alloc (.cells #[.int .i64 3, .string ⟨#[]⟩, .int .i64 0] 69)))
  obtain ⟨v, G10, rfl, h, r, hs⟩ := H9'.out.act ht
  have R3' := Lib.hid ((R3.out.no ((Fr.refl No _).alloc (.cells #[.int .i64 3, .string ⟨#[]⟩, .int .i64 0] 69))).step hs)
  clear R3
  have R3 := R3'
  clear R3'
  have R4' := Lib.hid ((R4.out.no ((Fr.refl No _).alloc (.cells #[.int .i64 3, .string ⟨#[]⟩, .int .i64 0] 69))).step hs)
  clear R4
  have R4 := R4'
  clear R4'
  have R6' := Lib.hid ((R6.out.no ((Fr.refl No _).alloc (.cells #[.int .i64 3, .string ⟨#[]⟩, .int .i64 0] 69))).step hs)
  clear R6
  have R6 := R6'
  clear R6'
  have R7' := Lib.hid ((R7.out.no ((Fr.refl No _).alloc (.cells #[.int .i64 3, .string ⟨#[]⟩, .int .i64 0] 69))).step hs)
  clear R7
  have R7 := R7'
  clear R7'
  have R8' := Lib.hid ((R8.out.no ((Fr.refl No _).alloc (.cells #[.int .i64 3, .string ⟨#[]⟩, .int .i64 0] 69))).step hs)
  clear R8
  have R8 := R8'
  clear R8'
  have R9' := Lib.hid ((R9.out.no ((Fr.refl No _).alloc (.cells #[.int .i64 3, .string ⟨#[]⟩, .int .i64 0] 69))).step hs)
  clear R9
  have R9 := R9'
  clear R9'
  obtain ⟨A10, c10, rfl⟩ := r.form
  have R10 := Lib.hid r
  have H10 := Lib.hid h
  have k10 := K9.out.break_ (now := 13) (l := [(3, [], 0)]) (fun _ h => fit_lit)
  rw [ex10] at k10
  have K10 := Lib.hid k10
  clear ht r h hs H9 K9 XB
  have LO := Lib.hid (lost_any H10.out.at' K10.out (by decide) 14 0 (by decide))
  rw [ex11] at LO
  go_wp2_with fail
  refine LO.out.mono ?_
  rintro e w11 ⟨rfl, ha, hf⟩
  have hs : Step G10 w10 G10 w11 := ⟨hf, fun k hk => .inl hk⟩
  have H11 := Lib.hid (H10.out.step ha hs)
  have R3' := Lib.hid (R3.out.step hs)
  clear R3
  have R3 := R3'
  clear R3'
  have R4' := Lib.hid (R4.out.step hs)
  clear R4
  have R4 := R4'
  clear R4'
  have R6' := Lib.hid (R6.out.step hs)
  clear R6
  have R6 := R6'
  clear R6'
  have R7' := Lib.hid (R7.out.step hs)
  clear R7
  have R7 := R7'
  clear R7'
  have R8' := Lib.hid (R8.out.step hs)
  clear R8
  have R8 := R8'
  clear R8'
  have R9' := Lib.hid (R9.out.step hs)
  clear R9
  have R9 := R9'
  clear R9'
  have R10' := Lib.hid (R10.out.step hs)
  clear R10
  have R10 := R10'
  clear R10'
  have k11 := K10.out.lost (now := 14) 0
  rw [ex11] at k11
  have K11 := Lib.hid k11
  clear ha hf hs k11
  go_wp2_with fail
  refine (stop_any H11.out.at').mono ?_
  intro e w12 ht
  rw [ex12] at ht
  obtain ⟨v, G12, rfl, h, r, hs⟩ := H11.out.act ht
  have R3' := Lib.hid (R3.out.step hs)
  clear R3
  have R3 := R3'
  clear R3'
  have R4' := Lib.hid (R4.out.step hs)
  clear R4
  have R4 := R4'
  clear R4'
  have R6' := Lib.hid (R6.out.step hs)
  clear R6
  have R6 := R6'
  clear R6'
  have R7' := Lib.hid (R7.out.step hs)
  clear R7
  have R7 := R7'
  clear R7'
  have R8' := Lib.hid (R8.out.step hs)
  clear R8
  have R8 := R8'
  clear R8'
  have R9' := Lib.hid (R9.out.step hs)
  clear R9
  have R9 := R9'
  clear R9'
  have R10' := Lib.hid (R10.out.step hs)
  clear R10
  have R10 := R10'
  clear R10'
  obtain ⟨A12, c12, rfl⟩ := r.form
  have R12 := Lib.hid r
  have H12 := Lib.hid h
  have k12 := K11.out.stop
  rw [ex12] at k12
  have K12 := Lib.hid k12
  clear k12
  clear ht r h hs H11 K11
  have Q3 := Lib.hid (fun (X : World) (hf : Fr No w12 X) => same_lit R3.out (by intro x hx; simp at hx; subst hx; exact ⟨by decide, by decide⟩) [(1, [])] (by intro x hx; simp at hx; subst hx; exact ⟨by decide, by decide⟩) #[.int .i64 1, .string ⟨#[]⟩] rfl 1 rfl (by decide) hf)
  rw [show decide (([(1, [])] : List U) = [(1, [])]) = true from rfl] at Q3
  have Q7 := Lib.hid (fun (X : World) (hf : Fr No w12 X) => same_lit R7.out (by intro x hx; simp at hx; subst hx; exact ⟨by decide, by decide⟩) [(3, [105])] (by intro x hx; simp at hx; subst hx; exact ⟨by decide, by decide⟩) #[.int .i64 3, .string ⟨#[105]⟩] rfl 1 rfl (by decide) hf)
  rw [show decide (([(3, [105])] : List U) = [(3, [105])]) = true from rfl] at Q7
  have Q9 := Lib.hid (fun (X : World) (hf : Fr No w12 X) => same_lit R9.out (by intro x hx; simp at hx; subst hx; exact ⟨by decide, by decide⟩) [(3, [97, 98, 99])] (by intro x hx; simp at hx; subst hx; exact ⟨by decide, by decide⟩) #[.int .i64 3, .string ⟨#[97, 98, 99]⟩] rfl 1 rfl (by decide) hf)
  rw [show decide (([(3, [97, 98, 99])] : List U) = [(3, [97, 98, 99])]) = true from rfl] at Q9
  have Q10 := Lib.hid (fun (X : World) (hf : Fr No w12 X) => same_lit R10.out (by intro x hx; simp at hx; subst hx; exact ⟨by decide, by decide⟩) [(4, [])] (by intro x hx; simp at hx; subst hx; exact ⟨by decide, by decide⟩) #[.int .i64 4, .string ⟨#[]⟩] rfl 1 rfl (by decide) hf)
  rw [show decide (([(4, [])] : List U) = [(4, [])]) = true from rfl] at Q10
  have SA := Lib.hid (fun (X : World) (hf : Fr No w12 X) => lstate_any (H12.out.at'.no hf))
  have G0_ := Lib.hid (Fr.refl No w12)
  go_wp2_with fail
  refine (Q3.out _ G0_.out).mono ?_
  rintro e x0 ⟨rfl, hf⟩
  have G1_ := Lib.hid (G0_.out.then_no hf)
  clear hf Q3
  go_wp2_with fail
  refine (Q7.out _ G1_.out).mono ?_
  rintro e x1 ⟨rfl, hf⟩
  have G2_ := Lib.hid (G1_.out.then_no hf)
  clear hf Q7
  go_wp2_with fail
  refine (Q9.out _ G2_.out).mono ?_
  rintro e x2 ⟨rfl, hf⟩
  have G3_ := Lib.hid (G2_.out.then_no hf)
  clear hf Q9
  go_wp2_with fail
  refine (Q10.out _ G3_.out).mono ?_
  rintro e x3 ⟨rfl, hf⟩
  have G4_ := Lib.hid (G3_.out.then_no hf)
  clear hf Q10
  go_wp2_with fail
  refine (SA.out _ G4_.out).mono ?_
  rintro e x4 ⟨rfl, rfl⟩
  go_wp2_with fail
  go_ret
  exact ⟨rfl, H12.out.fr.then_no G4_.out⟩
end Ln
end Go.Proofs.Ytnfkkonmhinlcaa
