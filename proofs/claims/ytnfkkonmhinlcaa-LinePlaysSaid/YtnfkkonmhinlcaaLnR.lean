/- Package line: its reference: what its value reads as; Next, Start. Printed by gen_lnr.py. -/
import Derived.Test.YtnfkkonmhinlcaaMergedB
import Derived.BigQuiet
import Derived.Deep.CutRange
import Derived.Deep.RegionHeld3
import Derived.Outline
namespace Go.Proofs.Ytnfkkonmhinlcaa
open Go.RowKit
set_option linter.unusedVariables false
set_option linter.unusedSimpArgs false
namespace Ln
open Run (O ROp timesR endsR dueT nextT chk chkR Fit)
def agL (vF vL : Value) (s : S) : Value := .agg #[.int .i64 s.b, .int .i64 s.c, .int .i64 s.j, .int .i64 s.st, .int .i64 s.n, .int .i64 s.at_, vF, vL, .int .i64 s.start, .int .i64 s.was, .string ⟨s.held.toArray⟩]
/-- The reference's line, in the blocks S, which nobody writes. -/
structure RL (w : World) (B : Nat → Prop) (vF vL : Value) (s : S) : Prop where
  first : RSl 3 ROp w B [vF] s.first
  seq : RSl 3 ROp w B [vL] s.seq
  lt : ∀ k, B k → k < w.heap.size
theorem RL.no {w w' : World} {B : Nat → Prop} {vF vL : Value} {s : S} (h : RL w B vF vL s) (hf : Fr No w w') : RL w' B vF vL s :=
  ⟨(RSl.stable ROp.stable).go h.first (Kept.of_no hf h.lt) (fun _ h => h), (RSl.stable ROp.stable).go h.seq (Kept.of_no hf h.lt) (fun _ h => h), fun k hk => Nat.lt_of_lt_of_le (h.lt k hk) hf.size⟩
theorem RL.fr {w w' : World} {B F : Nat → Prop} {vF vL : Value} {s : S} (h : RL w B vF vL s) (hf : Fr F w w') (hn : ∀ k, B k → ¬ F k) : RL w' B vF vL s :=
  ⟨(RSl.stable ROp.stable).go h.first (Kept.of_fr hf (fun k hk => ⟨h.lt k hk, hn k hk⟩)) (fun _ h => h), (RSl.stable ROp.stable).go h.seq (Kept.of_fr hf (fun k hk => ⟨h.lt k hk, hn k hk⟩)) (fun _ h => h), fun k hk => Nat.lt_of_lt_of_le (h.lt k hk) hf.size⟩
theorem of_nil {k : Nat} (h : Of (.slice none 0 0) k) : False := by cases h
def Outs (w w' : World) (v : Value) (l : List U) : Prop := w'.ownsRow 0 65 2 v l.length (l.flatMap encU) ∧ ∀ k, Of v k → New w w' k
def ROuts (r : S × List U) (B : Nat → Prop) (w : World) (e : Ending) (w' : World) : Prop :=
  ∃ vF vL v, e = .returned (.tuple #[agL vF vL r.1, v]) ∧ RL w' B vF vL r.1 ∧ Outs w w' v r.2 ∧ Fr No w w'
theorem outs_nil (w w' : World) : Outs w w' (.slice none 0 0) [] := ⟨World.ownsRow_nil _ _ _ _, fun k hk => (of_nil hk).elim⟩
/-- The end of an act of the reference. -/
def Like (s s' : S) : Prop := s'.first = s.first
theorem ops_nil (w : World) (B : Nat → Prop) : RSl 3 ROp w B [.slice none 0 0] [] := ⟨none, 0, rfl, Nat.le_refl _, Nat.zero_le _, fun _ => rfl, fun i hi => by simp at hi⟩
theorem rl_fin {w W : World} {B : Nat → Prop} {vF vL v : Value} {s : S} {l : List U} (hF : Fr No w W) (hR : RL w B vF vL s) (hv : Outs w W v l) : ROuts (s, l) B w (.returned (.tuple #[agL vF vL s, v])) W :=
  ⟨vF, vL, v, rfl, hR.no hF, hv, hF⟩
theorem outs_one {w : World} {g : Nat} {k : Int} {t : Str} (W' : World) (hg : W'.heap.size = g) (hw : w.heap.size ≤ W'.heap.size) : Outs w (W'.alloc (.cells #[.int .i64 k, .string ⟨t.toArray⟩] 65)) (.slice (some ⟨g, 0, none⟩) 1 1) [(k, t)] := by
  subst hg
  refine ⟨Run.own_lit W' 65 2 1 #[.int .i64 k, .string ⟨t.toArray⟩] rfl (by unfold maxLen; omega), fun k hk => ?_⟩
  have hk : some W'.heap.size = some k := hk
  injection hk with hk
  subst hk
  exact ⟨hw, by rw [size_alloc]; omega⟩
section
variable {w w' : World} {S0 : Nat → Prop} {vF vL : Value} {s : S}
set_option maxRecDepth 100000 in
set_option maxHeartbeats 4000000 in
theorem rnext_any (h : RL w S0 vF vL s) (hf : busy s = true → Fit s.seq s.start) : Calls Try.prog 19 #[agL vF vL s] w fun e w' => e = .returned (.tuple #[.int .i64 (nextS s).1, .bool (nextS s).2]) ∧ Fr No w w' := by
  obtain ⟨b, c, j, st, n, at_, first, seq, start, was, held⟩ := s
  obtain ⟨A, c1, rfl, hA1, hA2⟩ := h.first.slice
  obtain ⟨B, d1, rfl, hB1, hB2⟩ := h.seq.slice
  have H := Lib.hid h
  clear h
  have hA1 : first.length ≤ c1 := hA1
  have hB1 : seq.length ≤ d1 := hB1
  unfold maxLen at hA2 hB2
  obtain ⟨n1, hn1⟩ : ∃ n1, n1 = first.length := ⟨_, rfl⟩
  obtain ⟨m1, hm1⟩ : ∃ m1, m1 = seq.length := ⟨_, rfl⟩
  have ag : agL (.slice A first.length c1) (.slice B seq.length d1) ⟨b, c, j, st, n, at_, first, seq, start, was, held⟩ = .agg #[.int .i64 b, .int .i64 c, .int .i64 j, .int .i64 st, .int .i64 n, .int .i64 at_, .slice A n1 c1, .slice B m1 d1, .int .i64 start, .int .i64 was, .string ⟨held.toArray⟩] := by rw [hn1, hm1]; rfl
  try simp only at ag
  rw [ag]
  have AG := Lib.hid ag
  have HN := Lib.hid hn1
  have HM := Lib.hid hm1
  rw [← hn1] at hA1
  rw [← hm1] at hB1
  clear ag hn1 hm1
  have XB := Lib.hid (Blk.new w 46 #[.int .i64 b, .int .i64 c, .int .i64 j, .int .i64 st, .int .i64 n, .int .i64 at_, .slice A n1 c1, .slice B m1 d1, .int .i64 start, .int .i64 was, .string ⟨held.toArray⟩])
  have F1 := Lib.hid ((Fr.refl No w).alloc (.cells #[.int .i64 b, .int .i64 c, .int .i64 j, .int .i64 st, .int .i64 n, .int .i64 at_, .slice A n1 c1, .slice B m1 d1, .int .i64 start, .int .i64 was, .string ⟨held.toArray⟩] 46))
  obtain ⟨bx, hbx⟩ : ∃ bx, w.heap.size = bx := ⟨_, rfl⟩
  have XB := Lib.hid (show Blk _ bx _ _ by rw [← hbx]; exact XB.out)
  have HBX := Lib.hid hbx
  have hc : (st = 1 ∧ nextS ⟨b, c, j, st, n, at_, first, seq, start, was, held⟩ = (at_, true)) ∨ (st ≠ 1 ∧ (st = 3 ∨ st ≠ 3 ∧ st = 5) ∧ Fit seq start ∧ nextS ⟨b, c, j, st, n, at_, first, seq, start, was, held⟩ = nextT was (endsR start seq) (timesR start seq)) ∨ (st ≠ 1 ∧ st ≠ 3 ∧ st ≠ 5 ∧ nextS ⟨b, c, j, st, n, at_, first, seq, start, was, held⟩ = (0, false)) := by
    unfold nextS busy at *
    simp only [decide_eq_true_eq] at *
    by_cases h1 : st = 1
    · exact .inl ⟨h1, if_pos h1⟩
    · rw [if_neg h1]
      by_cases h2 : st = 3 ∨ st = 5
      · rw [if_pos h2]
        exact .inr (.inl ⟨h1, by omega, hf h2, rfl⟩)
      · rw [if_neg h2]
        exact .inr (.inr ⟨h1, by omega, by omega, rfl⟩)
  clear hf
  rcases hc with ⟨rfl, e⟩ | ⟨g1, g2, hF, e⟩ | ⟨g1, g2, g3, e⟩
  · have HE := Lib.hid e
    clear e
    go_enter Try.func19, Try.ntmps19
    go_upto_region 1 with (fail)
    generalize w.alloc (.cells #[.int .i64 b, .int .i64 c, .int .i64 j, .int .i64 1, .int .i64 n, .int .i64 at_, .slice A n1 c1, .slice B m1 d1, .int .i64 start, .int .i64 was, .string ⟨held.toArray⟩] 46) = w1 at XB F1 ⊢
    clear hbx
    have xo := XB.out
    have x0 := xo.cell 0
    have x1 := xo.cell 1
    have x2 := xo.cell 2
    have x3 := xo.cell 3
    have x4 := xo.cell 4
    have x5 := xo.cell 5
    have x6 := xo.cell 6
    have x7 := xo.cell 7
    have x8 := xo.cell 8
    have x9 := xo.cell 9
    have x10 := xo.cell 10
    have xf0 := xo.frozen 0
    have xf1 := xo.frozen 1
    have xf2 := xo.frozen 2
    have xf3 := xo.frozen 3
    have xf4 := xo.frozen 4
    have xf5 := xo.frozen 5
    have xf6 := xo.frozen 6
    have xf7 := xo.frozen 7
    have xf8 := xo.frozen 8
    have xf9 := xo.frozen 9
    have xf10 := xo.frozen 10
    simp only [List.getElem?_toArray, List.getElem?_cons_zero, List.getElem?_cons_succ] at x0 x1 x2 x3 x4 x5 x6 x7 x8 x9 x10
    clear xo
    go_wp2_with fail
    go_ret2
    rw [HE.out]
    exact ⟨rfl, F1.out⟩
  · have HE := Lib.hid e
    have HFT := Lib.hid hF
    have g1 : (st == 1) = false := by simpa using g1
    clear e hF
    have g3 : (st = 3) ∨ ((st == 3) = false ∧ st = 5) := by
      rcases g2 with g | ⟨g, k⟩
      · exact .inl g
      · exact .inr ⟨by simpa using g, k⟩
    clear g2
    rcases g3 with rfl | ⟨g3, rfl⟩
    · go_enter Try.func19, Try.ntmps19
      go_upto_region 1 with (fail)
      generalize w.alloc (.cells #[.int .i64 b, .int .i64 c, .int .i64 j, .int .i64 3, .int .i64 n, .int .i64 at_, .slice A n1 c1, .slice B m1 d1, .int .i64 start, .int .i64 was, .string ⟨held.toArray⟩] 46) = w1 at XB F1 ⊢
      clear hbx
      have xo := XB.out
      have x0 := xo.cell 0
      have x1 := xo.cell 1
      have x2 := xo.cell 2
      have x3 := xo.cell 3
      have x4 := xo.cell 4
      have x5 := xo.cell 5
      have x6 := xo.cell 6
      have x7 := xo.cell 7
      have x8 := xo.cell 8
      have x9 := xo.cell 9
      have x10 := xo.cell 10
      have xf0 := xo.frozen 0
      have xf1 := xo.frozen 1
      have xf2 := xo.frozen 2
      have xf3 := xo.frozen 3
      have xf4 := xo.frozen 4
      have xf5 := xo.frozen 5
      have xf6 := xo.frozen 6
      have xf7 := xo.frozen 7
      have xf8 := xo.frozen 8
      have xf9 := xo.frozen 9
      have xf10 := xo.frozen 10
      simp only [List.getElem?_toArray, List.getElem?_cons_zero, List.getElem?_cons_succ] at x0 x1 x2 x3 x4 x5 x6 x7 x8 x9 x10
      clear xo
      have RN := Lib.hid (Run.rnext_any _ seq start was w1 S0 (H.out.no F1.out).seq HFT.out.len HFT.out.st HFT.out.ck)
      simp only [← HM.out] at RN
      go_wp2_with fail
      refine RN.out.mono ?_
      rintro e w2 ⟨hx, k, rfl⟩
      have he : e = _ := hx
      subst he
      clear hx
      go_wp2_with fail
      go_ret2
      rw [HE.out]
      exact ⟨rfl, F1.out.drewN _⟩
    · go_enter Try.func19, Try.ntmps19
      go_upto_region 1 with (fail)
      generalize w.alloc (.cells #[.int .i64 b, .int .i64 c, .int .i64 j, .int .i64 5, .int .i64 n, .int .i64 at_, .slice A n1 c1, .slice B m1 d1, .int .i64 start, .int .i64 was, .string ⟨held.toArray⟩] 46) = w1 at XB F1 ⊢
      clear hbx
      have xo := XB.out
      have x0 := xo.cell 0
      have x1 := xo.cell 1
      have x2 := xo.cell 2
      have x3 := xo.cell 3
      have x4 := xo.cell 4
      have x5 := xo.cell 5
      have x6 := xo.cell 6
      have x7 := xo.cell 7
      have x8 := xo.cell 8
      have x9 := xo.cell 9
      have x10 := xo.cell 10
      have xf0 := xo.frozen 0
      have xf1 := xo.frozen 1
      have xf2 := xo.frozen 2
      have xf3 := xo.frozen 3
      have xf4 := xo.frozen 4
      have xf5 := xo.frozen 5
      have xf6 := xo.frozen 6
      have xf7 := xo.frozen 7
      have xf8 := xo.frozen 8
      have xf9 := xo.frozen 9
      have xf10 := xo.frozen 10
      simp only [List.getElem?_toArray, List.getElem?_cons_zero, List.getElem?_cons_succ] at x0 x1 x2 x3 x4 x5 x6 x7 x8 x9 x10
      clear xo
      have RN := Lib.hid (Run.rnext_any _ seq start was w1 S0 (H.out.no F1.out).seq HFT.out.len HFT.out.st HFT.out.ck)
      simp only [← HM.out] at RN
      go_wp2_with fail
      refine RN.out.mono ?_
      rintro e w2 ⟨hx, k, rfl⟩
      have he : e = _ := hx
      subst he
      clear hx
      go_wp2_with fail
      go_ret2
      rw [HE.out]
      exact ⟨rfl, F1.out.drewN _⟩
  · have HE := Lib.hid e
    clear e
    have g1 : (st == 1) = false := by simpa using g1
    have g2 : (st == 3) = false := by simpa using g2
    have g3 : (st == 5) = false := by simpa using g3
    go_enter Try.func19, Try.ntmps19
    go_upto_region 1 with (fail)
    generalize w.alloc (.cells #[.int .i64 b, .int .i64 c, .int .i64 j, .int .i64 st, .int .i64 n, .int .i64 at_, .slice A n1 c1, .slice B m1 d1, .int .i64 start, .int .i64 was, .string ⟨held.toArray⟩] 46) = w1 at XB F1 ⊢
    clear hbx
    have xo := XB.out
    have x0 := xo.cell 0
    have x1 := xo.cell 1
    have x2 := xo.cell 2
    have x3 := xo.cell 3
    have x4 := xo.cell 4
    have x5 := xo.cell 5
    have x6 := xo.cell 6
    have x7 := xo.cell 7
    have x8 := xo.cell 8
    have x9 := xo.cell 9
    have x10 := xo.cell 10
    have xf0 := xo.frozen 0
    have xf1 := xo.frozen 1
    have xf2 := xo.frozen 2
    have xf3 := xo.frozen 3
    have xf4 := xo.frozen 4
    have xf5 := xo.frozen 5
    have xf6 := xo.frozen 6
    have xf7 := xo.frozen 7
    have xf8 := xo.frozen 8
    have xf9 := xo.frozen 9
    have xf10 := xo.frozen 10
    simp only [List.getElem?_toArray, List.getElem?_cons_zero, List.getElem?_cons_succ] at x0 x1 x2 x3 x4 x5 x6 x7 x8 x9 x10
    clear xo
    go_wp2_with fail
    go_ret2
    rw [HE.out]
    exact ⟨rfl, F1.out⟩
set_option maxRecDepth 100000 in
set_option maxHeartbeats 4000000 in
theorem rstart_any (h : RL w S0 vF vL s) : Calls Try.prog 38 #[agL vF vL s] w (ROuts (startS s) S0 w) := by
  obtain ⟨b, c, j, st, n, at_, first, seq, start, was, held⟩ := s
  obtain ⟨A, c1, rfl, hA1, hA2⟩ := h.first.slice
  obtain ⟨B, d1, rfl, hB1, hB2⟩ := h.seq.slice
  have H := Lib.hid h
  clear h
  have hA1 : first.length ≤ c1 := hA1
  have hB1 : seq.length ≤ d1 := hB1
  unfold maxLen at hA2 hB2
  obtain ⟨n1, hn1⟩ : ∃ n1, n1 = first.length := ⟨_, rfl⟩
  obtain ⟨m1, hm1⟩ : ∃ m1, m1 = seq.length := ⟨_, rfl⟩
  have ag : agL (.slice A first.length c1) (.slice B seq.length d1) ⟨b, c, j, st, n, at_, first, seq, start, was, held⟩ = .agg #[.int .i64 b, .int .i64 c, .int .i64 j, .int .i64 st, .int .i64 n, .int .i64 at_, .slice A n1 c1, .slice B m1 d1, .int .i64 start, .int .i64 was, .string ⟨held.toArray⟩] := by rw [hn1, hm1]; rfl
  try simp only at ag
  rw [ag]
  have AG := Lib.hid ag
  have HN := Lib.hid hn1
  have HM := Lib.hid hm1
  rw [← hn1] at hA1
  rw [← hm1] at hB1
  clear ag hn1 hm1
  have XB := Lib.hid ((Blk.new w 46 #[.int .i64 b, .int .i64 c, .int .i64 j, .int .i64 st, .int .i64 n, .int .i64 at_, .slice A n1 c1, .slice B m1 d1, .int .i64 start, .int .i64 was, .string ⟨held.toArray⟩]).alloc (.cells #[.int .i64 0, .int .i64 0, .int .i64 0, .int .i64 0, .int .i64 0, .int .i64 0, .slice none 0 0, .slice none 0 0, .int .i64 0, .int .i64 0, .string ⟨#[]⟩] 46))
  have XR := Blk.new (w.alloc (.cells #[.int .i64 b, .int .i64 c, .int .i64 j, .int .i64 st, .int .i64 n, .int .i64 at_, .slice A n1 c1, .slice B m1 d1, .int .i64 start, .int .i64 was, .string ⟨held.toArray⟩] 46)) 46 #[.int .i64 0, .int .i64 0, .int .i64 0, .int .i64 0, .int .i64 0, .int .i64 0, .slice none 0 0, .slice none 0 0, .int .i64 0, .int .i64 0, .string ⟨#[]⟩]
  have F1 := Lib.hid (((Fr.refl No w).alloc (.cells #[.int .i64 b, .int .i64 c, .int .i64 j, .int .i64 st, .int .i64 n, .int .i64 at_, .slice A n1 c1, .slice B m1 d1, .int .i64 start, .int .i64 was, .string ⟨held.toArray⟩] 46)).alloc (.cells #[.int .i64 0, .int .i64 0, .int .i64 0, .int .i64 0, .int .i64 0, .int .i64 0, .slice none 0 0, .slice none 0 0, .int .i64 0, .int .i64 0, .string ⟨#[]⟩] 46))
  rw [size_alloc] at XR
  obtain ⟨bx, hbx⟩ : ∃ bx, w.heap.size = bx := ⟨_, rfl⟩
  obtain ⟨br, hbr⟩ : ∃ br, bx + 1 = br := ⟨_, rfl⟩
  have XB := Lib.hid (show Blk _ bx _ _ by rw [← hbx]; exact XB.out)
  rw [hbx, hbr] at XR
  have XR := Lib.hid XR
  have HBX := Lib.hid hbx
  have HBR := Lib.hid hbr
  by_cases h0 : st = 0
  · subst h0
    go_enter Try.func38, Try.ntmps38
    go_upto_region 1 with (fail)
    generalize (w.alloc (.cells #[.int .i64 b, .int .i64 c, .int .i64 j, .int .i64 0, .int .i64 n, .int .i64 at_, .slice A n1 c1, .slice B m1 d1, .int .i64 start, .int .i64 was, .string ⟨held.toArray⟩] 46)).alloc (.cells #[.int .i64 0, .int .i64 0, .int .i64 0, .int .i64 0, .int .i64 0, .int .i64 0, .slice none 0 0, .slice none 0 0, .int .i64 0, .int .i64 0, .string ⟨#[]⟩] 46) = w1 at XB XR F1 ⊢
    have hbb : bx ≠ br := by omega
    have hbc : br ≠ bx := by omega
    clear hbx hbr
    have hbl := XR.out.lt
    have hbd : br ≠ w1.heap.size := by omega
    have hbm := XB.out.lt
    have hbe : bx ≠ w1.heap.size := by omega
    have xo := XB.out
    have x0 := xo.cell 0
    have x1 := xo.cell 1
    have x2 := xo.cell 2
    have x3 := xo.cell 3
    have x4 := xo.cell 4
    have x5 := xo.cell 5
    have x6 := xo.cell 6
    have x7 := xo.cell 7
    have x8 := xo.cell 8
    have x9 := xo.cell 9
    have x10 := xo.cell 10
    have xf0 := xo.frozen 0
    have xf1 := xo.frozen 1
    have xf2 := xo.frozen 2
    have xf3 := xo.frozen 3
    have xf4 := xo.frozen 4
    have xf5 := xo.frozen 5
    have xf6 := xo.frozen 6
    have xf7 := xo.frozen 7
    have xf8 := xo.frozen 8
    have xf9 := xo.frozen 9
    have xf10 := xo.frozen 10
    simp only [List.getElem?_toArray, List.getElem?_cons_zero, List.getElem?_cons_succ] at x0 x1 x2 x3 x4 x5 x6 x7 x8 x9 x10
    clear xo
    have ro := XR.out
    have r0 := ro.cell 0
    have r1 := ro.cell 1
    have r2 := ro.cell 2
    have r3 := ro.cell 3
    have r4 := ro.cell 4
    have r5 := ro.cell 5
    have r6 := ro.cell 6
    have r7 := ro.cell 7
    have r8 := ro.cell 8
    have r9 := ro.cell 9
    have r10 := ro.cell 10
    have rf0 := ro.frozen 0
    have rf1 := ro.frozen 1
    have rf2 := ro.frozen 2
    have rf3 := ro.frozen 3
    have rf4 := ro.frozen 4
    have rf5 := ro.frozen 5
    have rf6 := ro.frozen 6
    have rf7 := ro.frozen 7
    have rf8 := ro.frozen 8
    have rf9 := ro.frozen 9
    have rf10 := ro.frozen 10
    simp only [List.getElem?_toArray, List.getElem?_cons_zero, List.getElem?_cons_succ] at r0 r1 r2 r3 r4 r5 r6 r7 r8 r9 r10
    clear ro
    go_wp2_with fail
    clear x0 x1 x2 x3 x4 x5 x6 x7 x8 x9 x10 xf0 xf1 xf2 xf3 xf4 xf5 xf6 xf7 xf8 xf9 xf10
    clear r0 r1 r2 r3 r4 r5 r6 r7 r8 r9 r10 rf0 rf1 rf2 rf3 rf4 rf5 rf6 rf7 rf8 rf9 rf10
    have b9 := XR.out
    have b9 := b9.far (p := ⟨bx, 4, none⟩) hbc (.int .i64 0)
    have b9 := b9.far (p := ⟨bx, 3, none⟩) hbc (.int .i64 2)
    have b9 := b9.put 0 (.int .i64 b)
    have b9 := b9.put 1 (.int .i64 c)
    have b9 := b9.put 2 (.int .i64 j)
    have b9 := b9.put 3 (.int .i64 2)
    have b9 := b9.put 4 (.int .i64 0)
    have b9 := b9.put 5 (.int .i64 at_)
    have b9 := b9.put 6 (.slice A n1 c1)
    have b9 := b9.put 7 (.slice B m1 d1)
    have b9 := b9.put 8 (.int .i64 start)
    have b9 := b9.put 9 (.int .i64 was)
    have b9 := b9.put 10 (.string ⟨held.toArray⟩)
    have b9 := b9.alloc (.cells #[.int .i64 1, .string ⟨#[]⟩] 65)
    simp only [List.setIfInBounds_toArray, List.set_cons_zero, List.set_cons_succ] at b9
    have e0 := b9.cell 0
    have e1 := b9.cell 1
    have e2 := b9.cell 2
    have e3 := b9.cell 3
    have e4 := b9.cell 4
    have e5 := b9.cell 5
    have e6 := b9.cell 6
    have e7 := b9.cell 7
    have e8 := b9.cell 8
    have e9 := b9.cell 9
    have e10 := b9.cell 10
    simp only [List.getElem?_toArray, List.getElem?_cons_zero, List.getElem?_cons_succ] at e0 e1 e2 e3 e4 e5 e6 e7 e8 e9 e10
    clear b9
    have ea : agL (.slice A first.length c1) (.slice B seq.length d1) ⟨b, c, j, 2, 0, at_, first, seq, start, was, held⟩ = .agg #[.int .i64 b, .int .i64 c, .int .i64 j, .int .i64 2, .int .i64 0, .int .i64 at_, .slice A n1 c1, .slice B m1 d1, .int .i64 start, .int .i64 was, .string ⟨held.toArray⟩] := by rw [HM.out, HN.out]; rfl
    have hbw : w.heap.size ≤ bx := by have := HBX.out; omega
    have hbv : w.heap.size ≤ br := by have := HBX.out; have := HBR.out; omega
    refine bodyPost_ret (v := .tuple #[.agg #[.int .i64 b, .int .i64 c, .int .i64 j, .int .i64 2, .int .i64 0, .int .i64 at_, .slice A n1 c1, .slice B m1 d1, .int .i64 start, .int .i64 was, .string ⟨held.toArray⟩], .slice (some ⟨w1.heap.size, 0, none⟩) 1 1]) ?_ rfl ?_
    · simp [results, Try.f38, go_sem, e0, e1, e2, e3, e4, e5, e6, e7, e8, e9, e10]
    · rw [show startS ⟨b, c, j, 0, n, at_, first, seq, start, was, held⟩ = (⟨b, c, j, 2, 0, at_, first, seq, start, was, held⟩, [(1, [])]) from if_pos rfl, ← ea]
      refine rl_fin (vF := .slice A first.length c1) (vL := .slice B seq.length d1) (s := ⟨b, c, j, 2, 0, at_, first, seq, start, was, held⟩) (l := [(1, [])]) ?_ ?_ ?_
      · (repeat first | with_reducible refine Fr.alloc ?_ _ | with_reducible refine Fr.setCell ?_ (.inr (by first | exact hbw | exact hbv)) _)
        exact F1.out
      · exact ⟨H.out.first, H.out.seq, H.out.lt⟩
      · exact outs_one _ (by simp only [size_setCell]) (by have := F1.out.size; simp only [size_setCell]; exact this)
  · have HE := Lib.hid (show startS ⟨b, c, j, st, n, at_, first, seq, start, was, held⟩ = (⟨b, c, j, st, n, at_, first, seq, start, was, held⟩, []) from if_neg h0)
    have g0 : (st != 0) = true := by simpa using h0
    clear h0
    go_enter Try.func38, Try.ntmps38
    go_upto_region 1 with (fail)
    generalize (w.alloc (.cells #[.int .i64 b, .int .i64 c, .int .i64 j, .int .i64 st, .int .i64 n, .int .i64 at_, .slice A n1 c1, .slice B m1 d1, .int .i64 start, .int .i64 was, .string ⟨held.toArray⟩] 46)).alloc (.cells #[.int .i64 0, .int .i64 0, .int .i64 0, .int .i64 0, .int .i64 0, .int .i64 0, .slice none 0 0, .slice none 0 0, .int .i64 0, .int .i64 0, .string ⟨#[]⟩] 46) = w1 at XB XR F1 ⊢
    have hbb : bx ≠ br := by omega
    have hbc : br ≠ bx := by omega
    clear hbx hbr
    have hbl := XR.out.lt
    have hbd : br ≠ w1.heap.size := by omega
    have hbm := XB.out.lt
    have hbe : bx ≠ w1.heap.size := by omega
    have xo := XB.out
    have x0 := xo.cell 0
    have x1 := xo.cell 1
    have x2 := xo.cell 2
    have x3 := xo.cell 3
    have x4 := xo.cell 4
    have x5 := xo.cell 5
    have x6 := xo.cell 6
    have x7 := xo.cell 7
    have x8 := xo.cell 8
    have x9 := xo.cell 9
    have x10 := xo.cell 10
    have xf0 := xo.frozen 0
    have xf1 := xo.frozen 1
    have xf2 := xo.frozen 2
    have xf3 := xo.frozen 3
    have xf4 := xo.frozen 4
    have xf5 := xo.frozen 5
    have xf6 := xo.frozen 6
    have xf7 := xo.frozen 7
    have xf8 := xo.frozen 8
    have xf9 := xo.frozen 9
    have xf10 := xo.frozen 10
    simp only [List.getElem?_toArray, List.getElem?_cons_zero, List.getElem?_cons_succ] at x0 x1 x2 x3 x4 x5 x6 x7 x8 x9 x10
    clear xo
    have ro := XR.out
    have r0 := ro.cell 0
    have r1 := ro.cell 1
    have r2 := ro.cell 2
    have r3 := ro.cell 3
    have r4 := ro.cell 4
    have r5 := ro.cell 5
    have r6 := ro.cell 6
    have r7 := ro.cell 7
    have r8 := ro.cell 8
    have r9 := ro.cell 9
    have r10 := ro.cell 10
    have rf0 := ro.frozen 0
    have rf1 := ro.frozen 1
    have rf2 := ro.frozen 2
    have rf3 := ro.frozen 3
    have rf4 := ro.frozen 4
    have rf5 := ro.frozen 5
    have rf6 := ro.frozen 6
    have rf7 := ro.frozen 7
    have rf8 := ro.frozen 8
    have rf9 := ro.frozen 9
    have rf10 := ro.frozen 10
    simp only [List.getElem?_toArray, List.getElem?_cons_zero, List.getElem?_cons_succ] at r0 r1 r2 r3 r4 r5 r6 r7 r8 r9 r10
    clear ro
    go_wp2_with fail
    clear x0 x1 x2 x3 x4 x5 x6 x7 x8 x9 x10 xf0 xf1 xf2 xf3 xf4 xf5 xf6 xf7 xf8 xf9 xf10
    clear r0 r1 r2 r3 r4 r5 r6 r7 r8 r9 r10 rf0 rf1 rf2 rf3 rf4 rf5 rf6 rf7 rf8 rf9 rf10
    have b9 := XR.out
    have b9 := b9.put 0 (.int .i64 b)
    have b9 := b9.put 1 (.int .i64 c)
    have b9 := b9.put 2 (.int .i64 j)
    have b9 := b9.put 3 (.int .i64 st)
    have b9 := b9.put 4 (.int .i64 n)
    have b9 := b9.put 5 (.int .i64 at_)
    have b9 := b9.put 6 (.slice A n1 c1)
    have b9 := b9.put 7 (.slice B m1 d1)
    have b9 := b9.put 8 (.int .i64 start)
    have b9 := b9.put 9 (.int .i64 was)
    have b9 := b9.put 10 (.string ⟨held.toArray⟩)
    simp only [List.setIfInBounds_toArray, List.set_cons_zero, List.set_cons_succ] at b9
    have e0 := b9.cell 0
    have e1 := b9.cell 1
    have e2 := b9.cell 2
    have e3 := b9.cell 3
    have e4 := b9.cell 4
    have e5 := b9.cell 5
    have e6 := b9.cell 6
    have e7 := b9.cell 7
    have e8 := b9.cell 8
    have e9 := b9.cell 9
    have e10 := b9.cell 10
    simp only [List.getElem?_toArray, List.getElem?_cons_zero, List.getElem?_cons_succ] at e0 e1 e2 e3 e4 e5 e6 e7 e8 e9 e10
    clear b9
    have ea : agL (.slice A first.length c1) (.slice B seq.length d1) ⟨b, c, j, st, n, at_, first, seq, start, was, held⟩ = .agg #[.int .i64 b, .int .i64 c, .int .i64 j, .int .i64 st, .int .i64 n, .int .i64 at_, .slice A n1 c1, .slice B m1 d1, .int .i64 start, .int .i64 was, .string ⟨held.toArray⟩] := by rw [HM.out, HN.out]; rfl
    have hbw : w.heap.size ≤ bx := by have := HBX.out; omega
    have hbv : w.heap.size ≤ br := by have := HBX.out; have := HBR.out; omega
    refine bodyPost_ret (v := .tuple #[.agg #[.int .i64 b, .int .i64 c, .int .i64 j, .int .i64 st, .int .i64 n, .int .i64 at_, .slice A n1 c1, .slice B m1 d1, .int .i64 start, .int .i64 was, .string ⟨held.toArray⟩], .slice none 0 0]) ?_ rfl ?_
    · simp [results, Try.f38, go_sem, e0, e1, e2, e3, e4, e5, e6, e7, e8, e9, e10]
    · rw [HE.out, ← ea]
      refine rl_fin (vF := .slice A first.length c1) (vL := .slice B seq.length d1) (s := ⟨b, c, j, st, n, at_, first, seq, start, was, held⟩) (l := []) ?_ ?_ ?_
      · (repeat first | with_reducible refine Fr.alloc ?_ _ | with_reducible refine Fr.setCell ?_ (.inr (by first | exact hbw | exact hbv)) _)
        exact F1.out
      · exact ⟨H.out.first, H.out.seq, H.out.lt⟩
      · exact outs_nil _ _
set_option maxRecDepth 100000 in
set_option maxHeartbeats 4000000 in
theorem rstop_any (h : RL w S0 vF vL s) : Calls Try.prog 39 #[agL vF vL s] w (ROuts (stopS s) S0 w) := by
  obtain ⟨b, c, j, st, n, at_, first, seq, start, was, held⟩ := s
  obtain ⟨A, c1, rfl, hA1, hA2⟩ := h.first.slice
  obtain ⟨B, d1, rfl, hB1, hB2⟩ := h.seq.slice
  have H := Lib.hid h
  clear h
  have hA1 : first.length ≤ c1 := hA1
  have hB1 : seq.length ≤ d1 := hB1
  unfold maxLen at hA2 hB2
  obtain ⟨n1, hn1⟩ : ∃ n1, n1 = first.length := ⟨_, rfl⟩
  obtain ⟨m1, hm1⟩ : ∃ m1, m1 = seq.length := ⟨_, rfl⟩
  have ag : agL (.slice A first.length c1) (.slice B seq.length d1) ⟨b, c, j, st, n, at_, first, seq, start, was, held⟩ = .agg #[.int .i64 b, .int .i64 c, .int .i64 j, .int .i64 st, .int .i64 n, .int .i64 at_, .slice A n1 c1, .slice B m1 d1, .int .i64 start, .int .i64 was, .string ⟨held.toArray⟩] := by rw [hn1, hm1]; rfl
  try simp only at ag
  rw [ag]
  have AG := Lib.hid ag
  have HN := Lib.hid hn1
  have HM := Lib.hid hm1
  rw [← hn1] at hA1
  rw [← hm1] at hB1
  clear ag hn1 hm1
  have XB := Lib.hid ((Blk.new w 46 #[.int .i64 b, .int .i64 c, .int .i64 j, .int .i64 st, .int .i64 n, .int .i64 at_, .slice A n1 c1, .slice B m1 d1, .int .i64 start, .int .i64 was, .string ⟨held.toArray⟩]).alloc (.cells #[.int .i64 0, .int .i64 0, .int .i64 0, .int .i64 0, .int .i64 0, .int .i64 0, .slice none 0 0, .slice none 0 0, .int .i64 0, .int .i64 0, .string ⟨#[]⟩] 46))
  have XR := Blk.new (w.alloc (.cells #[.int .i64 b, .int .i64 c, .int .i64 j, .int .i64 st, .int .i64 n, .int .i64 at_, .slice A n1 c1, .slice B m1 d1, .int .i64 start, .int .i64 was, .string ⟨held.toArray⟩] 46)) 46 #[.int .i64 0, .int .i64 0, .int .i64 0, .int .i64 0, .int .i64 0, .int .i64 0, .slice none 0 0, .slice none 0 0, .int .i64 0, .int .i64 0, .string ⟨#[]⟩]
  have F1 := Lib.hid (((Fr.refl No w).alloc (.cells #[.int .i64 b, .int .i64 c, .int .i64 j, .int .i64 st, .int .i64 n, .int .i64 at_, .slice A n1 c1, .slice B m1 d1, .int .i64 start, .int .i64 was, .string ⟨held.toArray⟩] 46)).alloc (.cells #[.int .i64 0, .int .i64 0, .int .i64 0, .int .i64 0, .int .i64 0, .int .i64 0, .slice none 0 0, .slice none 0 0, .int .i64 0, .int .i64 0, .string ⟨#[]⟩] 46))
  rw [size_alloc] at XR
  obtain ⟨bx, hbx⟩ : ∃ bx, w.heap.size = bx := ⟨_, rfl⟩
  obtain ⟨br, hbr⟩ : ∃ br, bx + 1 = br := ⟨_, rfl⟩
  have XB := Lib.hid (show Blk _ bx _ _ by rw [← hbx]; exact XB.out)
  rw [hbx, hbr] at XR
  have XR := Lib.hid XR
  have HBX := Lib.hid hbx
  have HBR := Lib.hid hbr
  by_cases h0 : st = 0
  · subst h0
    go_enter Try.func39, Try.ntmps39
    go_upto_region 1 with (fail)
    generalize (w.alloc (.cells #[.int .i64 b, .int .i64 c, .int .i64 j, .int .i64 0, .int .i64 n, .int .i64 at_, .slice A n1 c1, .slice B m1 d1, .int .i64 start, .int .i64 was, .string ⟨held.toArray⟩] 46)).alloc (.cells #[.int .i64 0, .int .i64 0, .int .i64 0, .int .i64 0, .int .i64 0, .int .i64 0, .slice none 0 0, .slice none 0 0, .int .i64 0, .int .i64 0, .string ⟨#[]⟩] 46) = w1 at XB XR F1 ⊢
    have hbb : bx ≠ br := by omega
    have hbc : br ≠ bx := by omega
    clear hbx hbr
    have hbl := XR.out.lt
    have hbd : br ≠ w1.heap.size := by omega
    have hbm := XB.out.lt
    have hbe : bx ≠ w1.heap.size := by omega
    have xo := XB.out
    have x0 := xo.cell 0
    have x1 := xo.cell 1
    have x2 := xo.cell 2
    have x3 := xo.cell 3
    have x4 := xo.cell 4
    have x5 := xo.cell 5
    have x6 := xo.cell 6
    have x7 := xo.cell 7
    have x8 := xo.cell 8
    have x9 := xo.cell 9
    have x10 := xo.cell 10
    have xf0 := xo.frozen 0
    have xf1 := xo.frozen 1
    have xf2 := xo.frozen 2
    have xf3 := xo.frozen 3
    have xf4 := xo.frozen 4
    have xf5 := xo.frozen 5
    have xf6 := xo.frozen 6
    have xf7 := xo.frozen 7
    have xf8 := xo.frozen 8
    have xf9 := xo.frozen 9
    have xf10 := xo.frozen 10
    simp only [List.getElem?_toArray, List.getElem?_cons_zero, List.getElem?_cons_succ] at x0 x1 x2 x3 x4 x5 x6 x7 x8 x9 x10
    clear xo
    have ro := XR.out
    have r0 := ro.cell 0
    have r1 := ro.cell 1
    have r2 := ro.cell 2
    have r3 := ro.cell 3
    have r4 := ro.cell 4
    have r5 := ro.cell 5
    have r6 := ro.cell 6
    have r7 := ro.cell 7
    have r8 := ro.cell 8
    have r9 := ro.cell 9
    have r10 := ro.cell 10
    have rf0 := ro.frozen 0
    have rf1 := ro.frozen 1
    have rf2 := ro.frozen 2
    have rf3 := ro.frozen 3
    have rf4 := ro.frozen 4
    have rf5 := ro.frozen 5
    have rf6 := ro.frozen 6
    have rf7 := ro.frozen 7
    have rf8 := ro.frozen 8
    have rf9 := ro.frozen 9
    have rf10 := ro.frozen 10
    simp only [List.getElem?_toArray, List.getElem?_cons_zero, List.getElem?_cons_succ] at r0 r1 r2 r3 r4 r5 r6 r7 r8 r9 r10
    clear ro
    go_wp2_with fail
    clear x0 x1 x2 x3 x4 x5 x6 x7 x8 x9 x10 xf0 xf1 xf2 xf3 xf4 xf5 xf6 xf7 xf8 xf9 xf10
    clear r0 r1 r2 r3 r4 r5 r6 r7 r8 r9 r10 rf0 rf1 rf2 rf3 rf4 rf5 rf6 rf7 rf8 rf9 rf10
    have b9 := XR.out
    have b9 := b9.put 0 (.int .i64 b)
    have b9 := b9.put 1 (.int .i64 c)
    have b9 := b9.put 2 (.int .i64 j)
    have b9 := b9.put 3 (.int .i64 0)
    have b9 := b9.put 4 (.int .i64 n)
    have b9 := b9.put 5 (.int .i64 at_)
    have b9 := b9.put 6 (.slice A n1 c1)
    have b9 := b9.put 7 (.slice B m1 d1)
    have b9 := b9.put 8 (.int .i64 start)
    have b9 := b9.put 9 (.int .i64 was)
    have b9 := b9.put 10 (.string ⟨held.toArray⟩)
    simp only [List.setIfInBounds_toArray, List.set_cons_zero, List.set_cons_succ] at b9
    have e0 := b9.cell 0
    have e1 := b9.cell 1
    have e2 := b9.cell 2
    have e3 := b9.cell 3
    have e4 := b9.cell 4
    have e5 := b9.cell 5
    have e6 := b9.cell 6
    have e7 := b9.cell 7
    have e8 := b9.cell 8
    have e9 := b9.cell 9
    have e10 := b9.cell 10
    simp only [List.getElem?_toArray, List.getElem?_cons_zero, List.getElem?_cons_succ] at e0 e1 e2 e3 e4 e5 e6 e7 e8 e9 e10
    clear b9
    have ea : agL (.slice A first.length c1) (.slice B seq.length d1) ⟨b, c, j, 0, n, at_, first, seq, start, was, held⟩ = .agg #[.int .i64 b, .int .i64 c, .int .i64 j, .int .i64 0, .int .i64 n, .int .i64 at_, .slice A n1 c1, .slice B m1 d1, .int .i64 start, .int .i64 was, .string ⟨held.toArray⟩] := by rw [HM.out, HN.out]; rfl
    have hbw : w.heap.size ≤ bx := by have := HBX.out; omega
    have hbv : w.heap.size ≤ br := by have := HBX.out; have := HBR.out; omega
    refine bodyPost_ret (v := .tuple #[.agg #[.int .i64 b, .int .i64 c, .int .i64 j, .int .i64 0, .int .i64 n, .int .i64 at_, .slice A n1 c1, .slice B m1 d1, .int .i64 start, .int .i64 was, .string ⟨held.toArray⟩], .slice none 0 0]) ?_ rfl ?_
    · simp [results, Try.f39, go_sem, e0, e1, e2, e3, e4, e5, e6, e7, e8, e9, e10]
    · rw [show stopS ⟨b, c, j, 0, n, at_, first, seq, start, was, held⟩ = (⟨b, c, j, 0, n, at_, first, seq, start, was, held⟩, []) from if_pos rfl, ← ea]
      refine rl_fin (vF := .slice A first.length c1) (vL := .slice B seq.length d1) (s := ⟨b, c, j, 0, n, at_, first, seq, start, was, held⟩) (l := []) ?_ ?_ ?_
      · (repeat first | with_reducible refine Fr.alloc ?_ _ | with_reducible refine Fr.setCell ?_ (.inr (by first | exact hbw | exact hbv)) _)
        exact F1.out
      · exact ⟨H.out.first, H.out.seq, H.out.lt⟩
      · exact outs_nil _ _
  by_cases h1 : st = 1
  · subst h1
    clear h0
    go_enter Try.func39, Try.ntmps39
    go_upto_region 1 with (fail)
    generalize (w.alloc (.cells #[.int .i64 b, .int .i64 c, .int .i64 j, .int .i64 1, .int .i64 n, .int .i64 at_, .slice A n1 c1, .slice B m1 d1, .int .i64 start, .int .i64 was, .string ⟨held.toArray⟩] 46)).alloc (.cells #[.int .i64 0, .int .i64 0, .int .i64 0, .int .i64 0, .int .i64 0, .int .i64 0, .slice none 0 0, .slice none 0 0, .int .i64 0, .int .i64 0, .string ⟨#[]⟩] 46) = w1 at XB XR F1 ⊢
    have hbb : bx ≠ br := by omega
    have hbc : br ≠ bx := by omega
    clear hbx hbr
    have hbl := XR.out.lt
    have hbd : br ≠ w1.heap.size := by omega
    have hbm := XB.out.lt
    have hbe : bx ≠ w1.heap.size := by omega
    have xo := XB.out
    have x0 := xo.cell 0
    have x1 := xo.cell 1
    have x2 := xo.cell 2
    have x3 := xo.cell 3
    have x4 := xo.cell 4
    have x5 := xo.cell 5
    have x6 := xo.cell 6
    have x7 := xo.cell 7
    have x8 := xo.cell 8
    have x9 := xo.cell 9
    have x10 := xo.cell 10
    have xf0 := xo.frozen 0
    have xf1 := xo.frozen 1
    have xf2 := xo.frozen 2
    have xf3 := xo.frozen 3
    have xf4 := xo.frozen 4
    have xf5 := xo.frozen 5
    have xf6 := xo.frozen 6
    have xf7 := xo.frozen 7
    have xf8 := xo.frozen 8
    have xf9 := xo.frozen 9
    have xf10 := xo.frozen 10
    simp only [List.getElem?_toArray, List.getElem?_cons_zero, List.getElem?_cons_succ] at x0 x1 x2 x3 x4 x5 x6 x7 x8 x9 x10
    clear xo
    have ro := XR.out
    have r0 := ro.cell 0
    have r1 := ro.cell 1
    have r2 := ro.cell 2
    have r3 := ro.cell 3
    have r4 := ro.cell 4
    have r5 := ro.cell 5
    have r6 := ro.cell 6
    have r7 := ro.cell 7
    have r8 := ro.cell 8
    have r9 := ro.cell 9
    have r10 := ro.cell 10
    have rf0 := ro.frozen 0
    have rf1 := ro.frozen 1
    have rf2 := ro.frozen 2
    have rf3 := ro.frozen 3
    have rf4 := ro.frozen 4
    have rf5 := ro.frozen 5
    have rf6 := ro.frozen 6
    have rf7 := ro.frozen 7
    have rf8 := ro.frozen 8
    have rf9 := ro.frozen 9
    have rf10 := ro.frozen 10
    simp only [List.getElem?_toArray, List.getElem?_cons_zero, List.getElem?_cons_succ] at r0 r1 r2 r3 r4 r5 r6 r7 r8 r9 r10
    clear ro
    go_wp2_with fail
    clear x0 x1 x2 x3 x4 x5 x6 x7 x8 x9 x10 xf0 xf1 xf2 xf3 xf4 xf5 xf6 xf7 xf8 xf9 xf10
    clear r0 r1 r2 r3 r4 r5 r6 r7 r8 r9 r10 rf0 rf1 rf2 rf3 rf4 rf5 rf6 rf7 rf8 rf9 rf10
    have b9 := XR.out
    have b9 := b9.far (p := ⟨bx, 3, none⟩) hbc (.int .i64 0)
    have b9 := b9.far (p := ⟨bx, 7, none⟩) hbc (.slice none 0 0)
    have b9 := b9.far (p := ⟨bx, 10, none⟩) hbc (.string ⟨#[]⟩)
    have b9 := b9.put 0 (.int .i64 b)
    have b9 := b9.put 1 (.int .i64 c)
    have b9 := b9.put 2 (.int .i64 j)
    have b9 := b9.put 3 (.int .i64 0)
    have b9 := b9.put 4 (.int .i64 n)
    have b9 := b9.put 5 (.int .i64 at_)
    have b9 := b9.put 6 (.slice A n1 c1)
    have b9 := b9.put 7 (.slice none 0 0)
    have b9 := b9.put 8 (.int .i64 start)
    have b9 := b9.put 9 (.int .i64 was)
    have b9 := b9.put 10 (.string ⟨#[]⟩)
    simp only [List.setIfInBounds_toArray, List.set_cons_zero, List.set_cons_succ] at b9
    have e0 := b9.cell 0
    have e1 := b9.cell 1
    have e2 := b9.cell 2
    have e3 := b9.cell 3
    have e4 := b9.cell 4
    have e5 := b9.cell 5
    have e6 := b9.cell 6
    have e7 := b9.cell 7
    have e8 := b9.cell 8
    have e9 := b9.cell 9
    have e10 := b9.cell 10
    simp only [List.getElem?_toArray, List.getElem?_cons_zero, List.getElem?_cons_succ] at e0 e1 e2 e3 e4 e5 e6 e7 e8 e9 e10
    clear b9
    have ea : agL (.slice A first.length c1) (.slice none 0 0) ⟨b, c, j, 0, n, at_, first, [], start, was, []⟩ = .agg #[.int .i64 b, .int .i64 c, .int .i64 j, .int .i64 0, .int .i64 n, .int .i64 at_, .slice A n1 c1, .slice none 0 0, .int .i64 start, .int .i64 was, .string ⟨#[]⟩] := by rw [HN.out]; rfl
    have hbw : w.heap.size ≤ bx := by have := HBX.out; omega
    have hbv : w.heap.size ≤ br := by have := HBX.out; have := HBR.out; omega
    refine bodyPost_ret (v := .tuple #[.agg #[.int .i64 b, .int .i64 c, .int .i64 j, .int .i64 0, .int .i64 n, .int .i64 at_, .slice A n1 c1, .slice none 0 0, .int .i64 start, .int .i64 was, .string ⟨#[]⟩], .slice none 0 0]) ?_ rfl ?_
    · simp [results, Try.f39, go_sem, e0, e1, e2, e3, e4, e5, e6, e7, e8, e9, e10]
    · rw [show stopS ⟨b, c, j, 1, n, at_, first, seq, start, was, held⟩ = (⟨b, c, j, 0, n, at_, first, [], start, was, []⟩, []) from rfl, ← ea]
      refine rl_fin (vF := .slice A first.length c1) (vL := .slice none 0 0) (s := ⟨b, c, j, 0, n, at_, first, [], start, was, []⟩) (l := []) ?_ ?_ ?_
      · (repeat first | with_reducible refine Fr.alloc ?_ _ | with_reducible refine Fr.setCell ?_ (.inr (by first | exact hbw | exact hbv)) _)
        exact F1.out
      · exact ⟨H.out.first, ops_nil _ _, H.out.lt⟩
      · exact outs_nil _ _
  · have HE := Lib.hid (show stopS ⟨b, c, j, st, n, at_, first, seq, start, was, held⟩ = (⟨b, c, j, 0, n, at_, first, [], start, was, []⟩, [(2, [])]) by unfold stopS; rw [if_neg h0, if_neg h1]; rfl)
    have g0 : (st == 0) = false := by simpa using h0
    have g1 : (st == 1) = false := by simpa using h1
    clear h0 h1
    go_enter Try.func39, Try.ntmps39
    go_upto_region 1 with (fail)
    generalize (w.alloc (.cells #[.int .i64 b, .int .i64 c, .int .i64 j, .int .i64 st, .int .i64 n, .int .i64 at_, .slice A n1 c1, .slice B m1 d1, .int .i64 start, .int .i64 was, .string ⟨held.toArray⟩] 46)).alloc (.cells #[.int .i64 0, .int .i64 0, .int .i64 0, .int .i64 0, .int .i64 0, .int .i64 0, .slice none 0 0, .slice none 0 0, .int .i64 0, .int .i64 0, .string ⟨#[]⟩] 46) = w1 at XB XR F1 ⊢
    have hbb : bx ≠ br := by omega
    have hbc : br ≠ bx := by omega
    clear hbx hbr
    have hbl := XR.out.lt
    have hbd : br ≠ w1.heap.size := by omega
    have hbm := XB.out.lt
    have hbe : bx ≠ w1.heap.size := by omega
    have xo := XB.out
    have x0 := xo.cell 0
    have x1 := xo.cell 1
    have x2 := xo.cell 2
    have x3 := xo.cell 3
    have x4 := xo.cell 4
    have x5 := xo.cell 5
    have x6 := xo.cell 6
    have x7 := xo.cell 7
    have x8 := xo.cell 8
    have x9 := xo.cell 9
    have x10 := xo.cell 10
    have xf0 := xo.frozen 0
    have xf1 := xo.frozen 1
    have xf2 := xo.frozen 2
    have xf3 := xo.frozen 3
    have xf4 := xo.frozen 4
    have xf5 := xo.frozen 5
    have xf6 := xo.frozen 6
    have xf7 := xo.frozen 7
    have xf8 := xo.frozen 8
    have xf9 := xo.frozen 9
    have xf10 := xo.frozen 10
    simp only [List.getElem?_toArray, List.getElem?_cons_zero, List.getElem?_cons_succ] at x0 x1 x2 x3 x4 x5 x6 x7 x8 x9 x10
    clear xo
    have ro := XR.out
    have r0 := ro.cell 0
    have r1 := ro.cell 1
    have r2 := ro.cell 2
    have r3 := ro.cell 3
    have r4 := ro.cell 4
    have r5 := ro.cell 5
    have r6 := ro.cell 6
    have r7 := ro.cell 7
    have r8 := ro.cell 8
    have r9 := ro.cell 9
    have r10 := ro.cell 10
    have rf0 := ro.frozen 0
    have rf1 := ro.frozen 1
    have rf2 := ro.frozen 2
    have rf3 := ro.frozen 3
    have rf4 := ro.frozen 4
    have rf5 := ro.frozen 5
    have rf6 := ro.frozen 6
    have rf7 := ro.frozen 7
    have rf8 := ro.frozen 8
    have rf9 := ro.frozen 9
    have rf10 := ro.frozen 10
    simp only [List.getElem?_toArray, List.getElem?_cons_zero, List.getElem?_cons_succ] at r0 r1 r2 r3 r4 r5 r6 r7 r8 r9 r10
    clear ro
    go_wp2_with fail
    clear x0 x1 x2 x3 x4 x5 x6 x7 x8 x9 x10 xf0 xf1 xf2 xf3 xf4 xf5 xf6 xf7 xf8 xf9 xf10
    clear r0 r1 r2 r3 r4 r5 r6 r7 r8 r9 r10 rf0 rf1 rf2 rf3 rf4 rf5 rf6 rf7 rf8 rf9 rf10
    have b9 := XR.out
    have b9 := b9.far (p := ⟨bx, 3, none⟩) hbc (.int .i64 0)
    have b9 := b9.far (p := ⟨bx, 7, none⟩) hbc (.slice none 0 0)
    have b9 := b9.far (p := ⟨bx, 10, none⟩) hbc (.string ⟨#[]⟩)
    have b9 := b9.put 0 (.int .i64 b)
    have b9 := b9.put 1 (.int .i64 c)
    have b9 := b9.put 2 (.int .i64 j)
    have b9 := b9.put 3 (.int .i64 0)
    have b9 := b9.put 4 (.int .i64 n)
    have b9 := b9.put 5 (.int .i64 at_)
    have b9 := b9.put 6 (.slice A n1 c1)
    have b9 := b9.put 7 (.slice none 0 0)
    have b9 := b9.put 8 (.int .i64 start)
    have b9 := b9.put 9 (.int .i64 was)
    have b9 := b9.put 10 (.string ⟨#[]⟩)
    have b9 := b9.alloc (.cells #[.int .i64 2, .string ⟨#[]⟩] 65)
    simp only [List.setIfInBounds_toArray, List.set_cons_zero, List.set_cons_succ] at b9
    have e0 := b9.cell 0
    have e1 := b9.cell 1
    have e2 := b9.cell 2
    have e3 := b9.cell 3
    have e4 := b9.cell 4
    have e5 := b9.cell 5
    have e6 := b9.cell 6
    have e7 := b9.cell 7
    have e8 := b9.cell 8
    have e9 := b9.cell 9
    have e10 := b9.cell 10
    simp only [List.getElem?_toArray, List.getElem?_cons_zero, List.getElem?_cons_succ] at e0 e1 e2 e3 e4 e5 e6 e7 e8 e9 e10
    clear b9
    have ea : agL (.slice A first.length c1) (.slice none 0 0) ⟨b, c, j, 0, n, at_, first, [], start, was, []⟩ = .agg #[.int .i64 b, .int .i64 c, .int .i64 j, .int .i64 0, .int .i64 n, .int .i64 at_, .slice A n1 c1, .slice none 0 0, .int .i64 start, .int .i64 was, .string ⟨#[]⟩] := by rw [HN.out]; rfl
    have hbw : w.heap.size ≤ bx := by have := HBX.out; omega
    have hbv : w.heap.size ≤ br := by have := HBX.out; have := HBR.out; omega
    refine bodyPost_ret (v := .tuple #[.agg #[.int .i64 b, .int .i64 c, .int .i64 j, .int .i64 0, .int .i64 n, .int .i64 at_, .slice A n1 c1, .slice none 0 0, .int .i64 start, .int .i64 was, .string ⟨#[]⟩], .slice (some ⟨w1.heap.size, 0, none⟩) 1 1]) ?_ rfl ?_
    · simp [results, Try.f39, go_sem, e0, e1, e2, e3, e4, e5, e6, e7, e8, e9, e10]
    · rw [HE.out, ← ea]
      refine rl_fin (vF := .slice A first.length c1) (vL := .slice none 0 0) (s := ⟨b, c, j, 0, n, at_, first, [], start, was, []⟩) (l := [(2, [])]) ?_ ?_ ?_
      · (repeat first | with_reducible refine Fr.alloc ?_ _ | with_reducible refine Fr.setCell ?_ (.inr (by first | exact hbw | exact hbv)) _)
        exact F1.out
      · exact ⟨H.out.first, ops_nil _ _, H.out.lt⟩
      · exact outs_one _ (by simp only [size_setCell]) (by have := F1.out.size; simp only [size_setCell]; exact this)
end
end Ln
end Go.Proofs.Ytnfkkonmhinlcaa
