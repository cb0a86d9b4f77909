/- Package seat: the law's example. Printed by gen_seath.py. -/
import Derived.Test.YtepnjmgacfjhiaaSeatG
import Derived.Test.YtepnjmgacfjhiaaSeatE
import Derived.Test.YtepnjmgacfjhiaaSeatT
namespace Go.Proofs.Ytepnjmgacfjhiaa
open Go.RowKit
set_option linter.unusedVariables false
set_option linter.unusedSimpArgs false
namespace Seat
open Sls
/-- A row that an act told, off the seat's blocks. -/
structure Row (w : World) (F : Nat → Prop) (v : Value) (l : Sh) : Prop where
  own : w.ownsRow 0 79 2 v l.length (l.flatMap encM)
  off : ∀ k, Of v k → ¬ F k
theorem Row.step {w w' : World} {F F' : Nat → Prop} {v : Value} {l : Sh} (h : Row w F v l) (hs : Step F w F' w') : Row w' F' v l :=
  ⟨own_fr h.own hs.1 h.off, fun k hk g => (hs.2 k g).elim (h.off k hk) (fun g => by have := own_lt h.own k hk; have := g.1; omega)⟩
theorem Row.no {w w' : World} {F : Nat → Prop} {v : Value} {l : Sh} (h : Row w F v l) (hs : Fr No w w') : Row w' F v l := ⟨own_fr2 hs h.own, h.off⟩
theorem Row.form {w : World} {F : Nat → Prop} {v : Value} {l : Sh} (h : Row w F v l) : ∃ A c, v = .slice A l.length c := own_form h.own
/-- A seat that the call has made, as it is. -/
structure Now (W w : World) (F : Nat → Prop) (b : Nat) (s : St) : Prop where
  at' : SAt w F b s
  inv : Inv s
  fr : Fr No W w
  new : ∀ k, F k → W.heap.size ≤ k
theorem Now.no {W w w' : World} {F : Nat → Prop} {b : Nat} {s : St} (h : Now W w F b s) (hf : Fr No w w') : Now W w' F b s := ⟨h.at'.no hf, h.inv, h.fr.then_no hf, h.new⟩
theorem Now.steps {W w w' : World} {F F' : Nat → Prop} {b : Nat} {s s' : St} (h : Now W w F b s) (ha : SAt w' F' b s') (hs : Step F w F' w') (hi : Inv s') : Now W w' F' b s' :=
  ⟨ha, hi, h.fr.trans hs.1 (fun k hk hl => absurd (h.new k hk) (by omega)), fun k hk => (hs.2 k hk).elim (h.new k) (fun g => Nat.le_trans h.fr.size g.1)⟩
/-- What an act leaves. -/
def Acted (W w w' : World) (F : Nat → Prop) (b : Nat) (r : St × Sh × Int) (e : Ending) : Prop := ∃ F' v, e = .returned (.tuple #[v, .int .i64 r.2.2]) ∧ Row w' F' v r.2.1 ∧ Now W w' F' b r.1 ∧ Step F w F' w'
theorem Now.acts {W w w' : World} {F : Nat → Prop} {b : Nat} {s : St} {r : St × Sh × Int} {e : Ending} (h : Now W w F b s) (hi : Inv r.1) (ht : Tells r F b w e w') : Acted W w w' F b r e := by
  obtain ⟨F', v, rfl, hr, ha, hs⟩ := ht
  exact ⟨F', v, rfl, ⟨hr.own, hr.off⟩, h.steps ha hs hi, hs⟩
theorem made_now {most : Int} {w w' : World} {e : Ending} (h : Made most w e w') (hm : 1 ≤ most ∧ most ≤ 4096) : ∃ b, e = .returned (.tuple #[.pointer (some ⟨b, 0, none⟩), .int .i64 0]) ∧ Now w w' (New w w') b ⟨[], most, -1, []⟩ := by
  obtain ⟨b, rfl, h1, h2⟩ := h
  exact ⟨b, rfl, h1, Inv.new hm, h2, fun k hk => hk.1⟩
theorem fm2h (l : Sh) : (l.flatMap encM).length = l.length * 2 := by
  induction l with
  | nil => rfl
  | cons x l ih => rw [List.flatMap_cons, List.length_append, ih, List.length_cons]; show 2 + _ = _; omega
/-- A row told is the literal. -/
theorem same_lit {w X : World} {F : Nat → Prop} {v : Value} {l : Sh} (h : Row w F v l) (cs : Array Value) (hcs : cs.toList = l.flatMap encM) (n : Nat) (hn : n = l.length) (hn0 : 0 < n ∧ n ≤ 2) (hf : Fr No w X) :
    Calls Try.prog 49 #[v, .slice (some ⟨X.heap.size, 0, none⟩) n n] (X.alloc (.cells cs 79)) fun e w' => e = .returned (.bool true) ∧ Fr No w w' := by
  have hX := (Fr.refl No X).alloc (.cells cs 79)
  have o1 := own_fr2 (hf.then_no hX) h.own
  have o2 : (X.alloc (.cells cs 79)).ownsRow 0 79 2 (.slice (some ⟨X.heap.size, 0, none⟩) n n) l.length (l.flatMap encM) :=
    by
    subst hn
    exact ⟨fm2h l, .inr ⟨X.heap.size, l.length, cs, rfl, Nat.zero_le _, Blk.new X _ _, Nat.le_refl _, (by unfold maxLen; omega), (by rw [← Array.length_toList, hcs, fm2h]), (by rw [hcs]; apply List.take_of_length_le; rw [fm2h]; exact Nat.le_refl _)⟩⟩
  refine (rsame_yes v _ l _ (Of v) (Of (.slice (some ⟨X.heap.size, 0, none⟩) n n)) (fun k hk => own_lt o1 k hk) (own_rm o1) (fun k hk => own_lt o2 k hk) (own_rm o2)).mono ?_
  rintro e w' ⟨rfl, hf'⟩
  exact ⟨rfl, (hf.then_no hX).then_no hf'⟩
theorem ex0 : comeR (⟨[], 4, -1, []⟩ : St) 1 2 true = ((⟨[(1, 2)], 4, 1, []⟩ : St), ([(1, 2)] : Sh), 0) := by kernel_rfl
theorem ex1 : comeR (⟨[(1, 2)], 4, 1, []⟩ : St) 2 2 true = ((⟨[(1, 2), (2, 2)], 4, 1, []⟩ : St), ([(2, 1)] : Sh), 0) := by kernel_rfl
theorem ex2 : comeR (⟨[(1, 2), (2, 2)], 4, 1, []⟩ : St) 3 0 false = ((⟨[(1, 2), (2, 2)], 4, 1, []⟩ : St), ([] : Sh), 10) := by kernel_rfl
theorem ex3 : comeR (⟨[(1, 2), (2, 2)], 4, 1, []⟩ : St) 3 3 true = ((⟨[(1, 2), (2, 2), (3, 3)], 4, 1, []⟩ : St), ([(3, 1)] : Sh), 0) := by kernel_rfl
theorem ex4 : askR (⟨[(1, 2), (2, 2), (3, 3)], 4, 1, []⟩ : St) 2 = ((⟨[(1, 2), (2, 2), (3, 3)], 4, 1, [2]⟩ : St), ([(2, 3)] : Sh), 0) := by kernel_rfl
theorem ex5 : takeR (⟨[(1, 2), (2, 2), (3, 3)], 4, 1, [2]⟩ : St) 2 false = ((⟨[(1, 2), (2, 2), (3, 3)], 4, 1, [2]⟩ : St), ([] : Sh), 10) := by kernel_rfl
theorem ex6 : takeR (⟨[(1, 2), (2, 2), (3, 3)], 4, 1, [2]⟩ : St) 3 false = ((⟨[(1, 2), (2, 2), (3, 3)], 4, 3, [2]⟩ : St), ([(1, 1), (3, 2)] : Sh), 0) := by kernel_rfl
theorem ex7 : yieldR (⟨[(1, 2), (2, 2), (3, 3)], 4, 3, [2]⟩ : St) 3 = ((⟨[(1, 2), (2, 2), (3, 3)], 4, 2, []⟩ : St), ([(3, 1), (2, 2)] : Sh), 0) := by kernel_rfl
theorem ex8 : leaveR (⟨[(1, 2), (2, 2), (3, 3)], 4, 2, []⟩ : St) 2 = ((⟨[(1, 2), (3, 3)], 4, -1, []⟩ : St), ([(2, 0)] : Sh), 0) := by kernel_rfl
theorem ex9 : takeR (⟨[(1, 2), (3, 3)], 4, -1, []⟩ : St) 1 true = ((⟨[(1, 2), (3, 3)], 4, -1, []⟩ : St), ([] : Sh), 10) := by kernel_rfl
theorem exr : roleR (⟨[(1, 2), (3, 3)], 4, -1, []⟩ : St) 1 = 1 := by kernel_rfl
set_option maxRecDepth 100000 in
set_option maxHeartbeats 8000000 in
theorem works_any (W : World) : Calls Try.prog 23 #[] W fun e w' => e = .returned (.bool true) ∧ Fr No W w' := by
  go_enter Try.func23, Try.ntmps23
  go_wp2_with fail
  refine (seat_yes 4 (by decide) (by decide) _).mono ?_
  intro e w0 hm
  obtain ⟨b, rfl, hn⟩ := made_now hm (by decide)
  have H0 := Lib.hid hn
  clear hm hn
  go_wp2_with fail
  refine (seat_no 0 (by decide) _).mono ?_
  rintro e w1 ⟨rfl, hf⟩
  have H1 := Lib.hid (H0.out.no hf)
  clear H0 hf
  go_wp2_with fail
  refine (call_any H1.out.at' H1.out.inv 1 2 rfl rfl).mono ?_
  intro e w2 ht
  rw [ex0] at ht
  have iv := (H1.out.inv.come true (id := 1) (level := 2) rfl rfl)
  rw [ex0] at iv
  obtain ⟨F2, v, rfl, r, h, hs⟩ := H1.out.acts iv ht
  obtain ⟨A0, c0, rfl⟩ := r.form
  have R0 := Lib.hid r
  have H2 := Lib.hid h
  clear ht iv r h hs H1
  go_wp2_with fail
  refine (call_any H2.out.at' H2.out.inv 2 2 rfl rfl).mono ?_
  intro e w3 ht
  rw [ex1] at ht
  have iv := (H2.out.inv.come true (id := 2) (level := 2) rfl rfl)
  rw [ex1] at iv
  obtain ⟨F3, v, rfl, r, h, hs⟩ := H2.out.acts iv ht
  have R0' := Lib.hid (R0.out.step hs)
  clear R0
  have R0 := R0'
  clear R0'
  obtain ⟨A1, c1, rfl⟩ := r.form
  have R1 := Lib.hid r
  have H3 := Lib.hid h
  clear ht iv r h hs H2
  go_wp2_with fail
  refine (spy_any H3.out.at' H3.out.inv 3 0 rfl rfl).mono ?_
  intro e w4 ht
  rw [ex2] at ht
  have iv := (H3.out.inv.come false (id := 3) (level := 0) rfl rfl)
  rw [ex2] at iv
  obtain ⟨F4, v, rfl, r, h, hs⟩ := H3.out.acts iv ht
  have R0' := Lib.hid (R0.out.step hs)
  clear R0
  have R0 := R0'
  clear R0'
  have R1' := Lib.hid (R1.out.step hs)
  clear R1
  have R1 := R1'
  clear R1'
  obtain ⟨A2, c2, rfl⟩ := r.form
  have R2 := Lib.hid r
  have H4 := Lib.hid h
  clear ht iv r h hs H3
  clear R2
  go_wp2_with fail
  refine (call_any H4.out.at' H4.out.inv 3 3 rfl rfl).mono ?_
  intro e w5 ht
  rw [ex3] at ht
  have iv := (H4.out.inv.come true (id := 3) (level := 3) rfl rfl)
  rw [ex3] at iv
  obtain ⟨F5, v, rfl, r, h, hs⟩ := H4.out.acts iv ht
  have R0' := Lib.hid (R0.out.step hs)
  clear R0
  have R0 := R0'
  clear R0'
  have R1' := Lib.hid (R1.out.step hs)
  clear R1
  have R1 := R1'
  clear R1'
  obtain ⟨A3, c3, rfl⟩ := r.form
  have R3 := Lib.hid r
  have H5 := Lib.hid h
  clear ht iv r h hs H4
  clear R3
  go_wp2_with fail
  refine (ask_any H5.out.at' H5.out.inv 2 rfl).mono ?_
  intro e w6 ht
  rw [ex4] at ht
  have iv := (H5.out.inv.ask 2)
  rw [ex4] at iv
  obtain ⟨F6, v, rfl, r, h, hs⟩ := H5.out.acts iv ht
  have R0' := Lib.hid (R0.out.step hs)
  clear R0
  have R0 := R0'
  clear R0'
  have R1' := Lib.hid (R1.out.step hs)
  clear R1
  have R1 := R1'
  clear R1'
  obtain ⟨A4, c4, rfl⟩ := r.form
  have R4 := Lib.hid r
  have H6 := Lib.hid h
  clear ht iv r h hs H5
  go_wp2_with fail
  refine (bump_any H6.out.at' H6.out.inv 2).mono ?_
  intro e w7 ht
  rw [ex5] at ht
  have iv := (H6.out.inv.take 2 false)
  rw [ex5] at iv
  obtain ⟨F7, v, rfl, r, h, hs⟩ := H6.out.acts iv ht
  have R0' := Lib.hid (R0.out.step hs)
  clear R0
  have R0 := R0'
  clear R0'
  have R1' := Lib.hid (R1.out.step hs)
  clear R1
  have R1 := R1'
  clear R1'
  have R4' := Lib.hid (R4.out.step hs)
  clear R4
  have R4 := R4'
  clear R4'
  obtain ⟨A5, c5, rfl⟩ := r.form
  have R5 := Lib.hid r
  have H7 := Lib.hid h
  clear ht iv r h hs H6
  clear R5
  go_wp2_with fail
  refine (bump_any H7.out.at' H7.out.inv 3).mono ?_
  intro e w8 ht
  rw [ex6] at ht
  have iv := (H7.out.inv.take 3 false)
  rw [ex6] at iv
  obtain ⟨F8, v, rfl, r, h, hs⟩ := H7.out.acts iv ht
  have R0' := Lib.hid (R0.out.step hs)
  clear R0
  have R0 := R0'
  clear R0'
  have R1' := Lib.hid (R1.out.step hs)
  clear R1
  have R1 := R1'
  clear R1'
  have R4' := Lib.hid (R4.out.step hs)
  clear R4
  have R4 := R4'
  clear R4'
  obtain ⟨A6, c6, rfl⟩ := r.form
  have R6 := Lib.hid r
  have H8 := Lib.hid h
  clear ht iv r h hs H7
  go_wp2_with fail
  refine (yield_any H8.out.at' H8.out.inv 3).mono ?_
  intro e w9 ht
  rw [ex7] at ht
  have iv := (H8.out.inv.yield 3)
  rw [ex7] at iv
  obtain ⟨F9, v, rfl, r, h, hs⟩ := H8.out.acts iv ht
  have R0' := Lib.hid (R0.out.step hs)
  clear R0
  have R0 := R0'
  clear R0'
  have R1' := Lib.hid (R1.out.step hs)
  clear R1
  have R1 := R1'
  clear R1'
  have R4' := Lib.hid (R4.out.step hs)
  clear R4
  have R4 := R4'
  clear R4'
  have R6' := Lib.hid (R6.out.step hs)
  clear R6
  have R6 := R6'
  clear R6'
  obtain ⟨A7, c7, rfl⟩ := r.form
  have R7 := Lib.hid r
  have H9 := Lib.hid h
  clear ht iv r h hs H8
  go_wp2_with fail
  refine (writer_any H9.out.at' H9.out.inv).mono ?_
  rintro e w' ⟨rfl, rfl⟩
  go_wp2_with fail
  refine (leave_any H9.out.at' H9.out.inv 2).mono ?_
  intro e w10 ht
  rw [ex8] at ht
  have iv := (H9.out.inv.leave 2)
  rw [ex8] at iv
  obtain ⟨F10, v, rfl, r, h, hs⟩ := H9.out.acts iv ht
  have R0' := Lib.hid (R0.out.step hs)
  clear R0
  have R0 := R0'
  clear R0'
  have R1' := Lib.hid (R1.out.step hs)
  clear R1
  have R1 := R1'
  clear R1'
  have R4' := Lib.hid (R4.out.step hs)
  clear R4
  have R4 := R4'
  clear R4'
  have R6' := Lib.hid (R6.out.step hs)
  clear R6
  have R6 := R6'
  clear R6'
  have R7' := Lib.hid (R7.out.step hs)
  clear R7
  have R7 := R7'
  clear R7'
  obtain ⟨A8, c8, rfl⟩ := r.form
  have R8 := Lib.hid r
  have H10 := Lib.hid h
  clear ht iv r h hs H9
  go_wp2_with fail
  refine (force_any H10.out.at' H10.out.inv 1).mono ?_
  intro e w11 ht
  rw [ex9] at ht
  have iv := (H10.out.inv.take 1 true)
  rw [ex9] at iv
  obtain ⟨F11, v, rfl, r, h, hs⟩ := H10.out.acts iv ht
  have R0' := Lib.hid (R0.out.step hs)
  clear R0
  have R0 := R0'
  clear R0'
  have R1' := Lib.hid (R1.out.step hs)
  clear R1
  have R1 := R1'
  clear R1'
  have R4' := Lib.hid (R4.out.step hs)
  clear R4
  have R4 := R4'
  clear R4'
  have R6' := Lib.hid (R6.out.step hs)
  clear R6
  have R6 := R6'
  clear R6'
  have R7' := Lib.hid (R7.out.step hs)
  clear R7
  have R7 := R7'
  clear R7'
  have R8' := Lib.hid (R8.out.step hs)
  clear R8
  have R8 := R8'
  clear R8'
  obtain ⟨A9, c9, rfl⟩ := r.form
  have R9 := Lib.hid r
  have H11 := Lib.hid h
  clear ht iv r h hs H10
  clear R9
  have Q0 := Lib.hid (fun (X : World) (hf : Fr No w11 X) => same_lit R0.out #[.int .i64 1, .int .i64 2] rfl 1 rfl (by decide) hf)
  clear R0
  have Q1 := Lib.hid (fun (X : World) (hf : Fr No w11 X) => same_lit R1.out #[.int .i64 2, .int .i64 1] rfl 1 rfl (by decide) hf)
  clear R1
  have Q4 := Lib.hid (fun (X : World) (hf : Fr No w11 X) => same_lit R4.out #[.int .i64 2, .int .i64 3] rfl 1 rfl (by decide) hf)
  clear R4
  have Q6 := Lib.hid (fun (X : World) (hf : Fr No w11 X) => same_lit R6.out #[.int .i64 1, .int .i64 1, .int .i64 3, .int .i64 2] rfl 2 rfl (by decide) hf)
  clear R6
  have Q7 := Lib.hid (fun (X : World) (hf : Fr No w11 X) => same_lit R7.out #[.int .i64 3, .int .i64 1, .int .i64 2, .int .i64 2] rfl 2 rfl (by decide) hf)
  clear R7
  have Q8 := Lib.hid (fun (X : World) (hf : Fr No w11 X) => same_lit R8.out #[.int .i64 2, .int .i64 0] rfl 1 rfl (by decide) hf)
  clear R8
  have RO := Lib.hid (fun (X : World) (hf : Fr No w11 X) => (role_any (H11.out.at'.no hf) 1))
  rw [exr] at RO
  have G0 := Lib.hid (Fr.refl No w11)
  go_wp2_with fail
  refine (Q0.out _ G0.out).mono ?_
  rintro e x0 ⟨rfl, hf⟩
  have G1 := Lib.hid hf
  clear hf G0 Q0
  go_wp2_with fail
  refine (Q1.out _ G1.out).mono ?_
  rintro e x1 ⟨rfl, hf⟩
  have G2 := Lib.hid hf
  clear hf G1 Q1
  go_wp2_with fail
  refine (Q4.out _ G2.out).mono ?_
  rintro e x2 ⟨rfl, hf⟩
  have G3 := Lib.hid hf
  clear hf G2 Q4
  go_wp2_with fail
  refine (Q6.out _ G3.out).mono ?_
  rintro e x3 ⟨rfl, hf⟩
  have G4 := Lib.hid hf
  clear hf G3 Q6
  go_wp2_with fail
  refine (Q7.out _ G4.out).mono ?_
  rintro e x4 ⟨rfl, hf⟩
  have G5 := Lib.hid hf
  clear hf G4 Q7
  go_wp2_with fail
  refine (Q8.out _ G5.out).mono ?_
  rintro e x5 ⟨rfl, hf⟩
  have G6 := Lib.hid hf
  clear hf G5 Q8
  go_wp2_with fail
  refine (RO.out _ G6.out).mono ?_
  rintro e x6 ⟨rfl, hf⟩
  go_wp2_with fail
  go_ret
  exact ⟨rfl, (H11.out.fr.then_no G6.out).then_no hf⟩
end Seat
end Go.Proofs.Ytepnjmgacfjhiaa
