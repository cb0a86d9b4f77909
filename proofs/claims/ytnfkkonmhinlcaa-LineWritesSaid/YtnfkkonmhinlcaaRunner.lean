/- Package runner: which steps are right, and New. -/
import Derived.Test.YtnfkkonmhinlcaaRows
import Derived.Test.YtnfkkonmhinlcaaBytes
import Derived.WalkKit
import Derived.Outline
import Derived.BigQuiet
import Derived.Deep.QuietTactic
import Derived.Deep.RegionLaw
import Derived.Deep.DeepMust
import Derived.Deep.LoopGhost
namespace Go.Proofs.Ytnfkkonmhinlcaa
open Go.RowKit
set_option linter.unusedVariables false
set_option linter.unusedSimpArgs false
namespace Run
abbrev O := Int × Str × Int
theorem infoO : (Try.prog.info? 69).map (fun i => (i.zero, i.size, i.bytes)) = some (some (.agg #[.int .i64 0, .string ByteArray.empty, .int .i64 0]), 3, 32) := by kernel_rfl
def encO (x : O) : List Value := [.int .i64 x.1, .string ⟨x.2.1.toArray⟩, .int .i64 x.2.2]
abbrev ROp : Rd O := RTwo 1 (RInt .i64) (RTwo 1 RStr (RInt .i64))
theorem ROp.stable : Rd.Stable ROp := RTwo.stable (RInt.stable _) (RTwo.stable RStr.stable (RInt.stable _))
def wfO (x : O) : Prop := (-9223372036854775808 ≤ x.1 ∧ x.1 ≤ 9223372036854775807) ∧ x.2.1.length ≤ maxLen ∧ (-9223372036854775808 ≤ x.2.2 ∧ x.2.2 ≤ 9223372036854775807)
theorem wf64 {n : Int} : (Lit.int .i64 n).wf = true ↔ -9223372036854775808 ≤ n ∧ n ≤ 9223372036854775807 := by
  have e1 : IntKind.i64.min = -9223372036854775808 := rfl
  have e2 : IntKind.i64.max = 9223372036854775807 := rfl
  simp [Lit.wf, e1, e2]
theorem ROp_iff {w : World} {S : Nat → Prop} {cs : List Value} {x : O} (hl : cs.length = 3) : ROp w S cs x ↔ cs = encO x ∧ wfO x := by
  match cs, hl with
  | [a, b, c], _ =>
    unfold wfO encO
    constructor
    · rintro ⟨_, ⟨h1, h2⟩, _, ⟨h3, h4⟩, ⟨h5, h6⟩⟩
      simp at h1 h3 h5
      subst h1 h3 h5
      exact ⟨rfl, wf64.1 h2, h4, wf64.1 h6⟩
    · rintro ⟨h, h2, h4, h6⟩
      injection h with h1 h
      injection h with h3 h
      injection h with h5 h
      subst h1 h3 h5
      exact ⟨by simp, ⟨rfl, wf64.2 h2⟩, by simp, ⟨rfl, h4⟩, ⟨rfl, wf64.2 h6⟩⟩
theorem encO_len (l : List O) : (l.flatMap encO).length = l.length * 3 := by
  induction l with
  | nil => rfl
  | cons a l ih => rw [List.flatMap_cons, List.length_append, ih, List.length_cons]; simp [encO]; omega
theorem encO_get (l : List O) (i : Nat) (h : i < l.length) : (l.flatMap encO)[i * 3]? = some (.int .i64 l[i].1) ∧ (l.flatMap encO)[i * 3 + 1]? = some (.string ⟨l[i].2.1.toArray⟩) ∧ (l.flatMap encO)[i * 3 + 2]? = some (.int .i64 l[i].2.2) := by
  induction l generalizing i with
  | nil => simp at h
  | cons a l ih =>
    rw [List.flatMap_cons]
    cases i with
    | zero => simp [encO]
    | succ i =>
      have := ih i (by simpa using h)
      have e : (encO a).length = 3 := rfl
      rw [List.getElem?_append_right (by rw [e]; omega), List.getElem?_append_right (by rw [e]; omega), List.getElem?_append_right (by rw [e]; omega), e, show (i + 1) * 3 - 3 = i * 3 by omega, show (i + 1) * 3 + 1 - 3 = i * 3 + 1 by omega, show (i + 1) * 3 + 2 - 3 = i * 3 + 2 by omega]
      simpa using this
theorem encO_one (l : List O) : ∀ u ∈ l.flatMap encO, u.oneCell' = true := by
  intro u hu
  obtain ⟨x, _, hx⟩ := List.mem_flatMap.1 hu
  simp [encO] at hx
  rcases hx with rfl | rfl | rfl <;> rfl
theorem add_flat (g j : Nat) : (⟨g, 0, none⟩ : Addr).add j = ⟨g, j, none⟩ := by
  unfold Addr.add; split <;> simp_all
theorem own_news {w : World} {base : Nat} {e : TypeId} {size n c : Nat} {A : Option Addr} {xs : List Value} (h : w.ownsRow base e size (.slice A n c) n xs) :
    ∀ j u, xs[j]? = some u → ∃ ad, A = some ad ∧ w.cell? (ad.add j) = some u := by
  intro j u hj
  have hc := h
  rcases h.2 with ⟨h0, h1⟩ | ⟨g, cap, cur, h0, _⟩
  · have hl := h.1
    rw [h1, Nat.zero_mul] at hl
    rw [List.eq_nil_of_length_eq_zero hl] at hj
    cases hj
  · injection h0 with h0 _
    subst h0
    exact ⟨_, rfl, hc.cells (g := g) rfl j u hj⟩
theorem own_ops {w : World} {base : Nat} {e : TypeId} {v : Value} {l : List O} (h : w.ownsRow base e 3 v l.length (l.flatMap encO)) (hl : ∀ x ∈ l, wfO x) : RSl 3 ROp w (Of v) [v] l := by
  rcases h.2 with ⟨rfl, h0⟩ | ⟨g, cap, cur, rfl, _, hg, h1, h2, h3, h4⟩
  · have : l = [] := List.eq_nil_of_length_eq_zero h0
    subst this
    exact ⟨none, 0, rfl, Nat.le_refl _, Nat.zero_le _, fun _ => rfl, fun i hi => by simp at hi⟩
  · refine ⟨some ⟨g, 0, none⟩, cap, rfl, h1, h2, fun h => (by cases h), fun i hi => ⟨⟨g, 0, none⟩, encO l[i], rfl, rfl, rfl, fun j hj => ?_, ?_⟩⟩
    · obtain ⟨g1, g2, g3⟩ := encO_get l i hi
      obtain rfl | rfl | rfl : j = 0 ∨ j = 1 ∨ j = 2 := by omega
      · exact h.cells (g := g) rfl _ _ g1
      · exact h.cells (g := g) rfl _ _ g2
      · exact h.cells (g := g) rfl _ _ g3
    · exact (ROp_iff rfl).2 ⟨rfl, hl _ (List.getElem_mem hi)⟩
theorem op_cells {w : World} {S : Nat → Prop} {v : Value} {l : List O} (h : RSl 3 ROp w S [v] l) :
    ∃ A cap, v = .slice A l.length cap ∧ l.length ≤ cap ∧ cap ≤ maxLen ∧ ∀ i (hi : i < l.length), ∃ ad, A = some ad ∧ S ad.block ∧ w.cell? (ad.add (i * 3)) = some (.int .i64 l[i].1) ∧ w.cell? ⟨(ad.add (i * 3)).block, (ad.add (i * 3)).off + 1, none⟩ = some (.string ⟨l[i].2.1.toArray⟩) ∧ w.cell? ⟨(ad.add (i * 3)).block, (ad.add (i * 3)).off + 2, none⟩ = some (.int .i64 l[i].2.2) ∧ wfO l[i] := by
  obtain ⟨A, cap, h1, h2, h3, _, h5⟩ := h
  refine ⟨A, cap, by injection h1, h2, h3, fun i hi => ?_⟩
  obtain ⟨ad, ecs, g1, g2, g3, g4, g5⟩ := h5 i hi
  obtain ⟨rfl, hw⟩ := (ROp_iff g3).1 g5
  have k0 := g4 0 (by omega)
  have k1 := g4 1 (by omega)
  have k2 := g4 2 (by omega)
  have e1 : (ad.add (i * 3)).add 1 = ⟨(ad.add (i * 3)).block, (ad.add (i * 3)).off + 1, none⟩ := rfl
  have e2 : (ad.add (i * 3)).add 2 = ⟨(ad.add (i * 3)).block, (ad.add (i * 3)).off + 2, none⟩ := rfl
  rw [← add_add, e1] at k1
  rw [← add_add, e2] at k2
  exact ⟨ad, g1, g2, by simpa [encO] using k0, k1, k2, hw⟩
def isT (n : Int) : Bool := decide (0 ≤ n ∧ n ≤ 1099511627776)
theorem isT_iff {n : Int} : isT n = true ↔ 0 ≤ n ∧ n ≤ 1099511627776 := by simp [isT]
theorem is_any (n : Int) (w : World) : Calls Try.prog 53 #[.int .i64 n] w fun e w' => e = .returned (.bool (isT n)) ∧ w = w' := by
  by_cases h1 : 0 ≤ n
  · by_cases h2 : n ≤ 1099511627776
    all_goals
      go_enter Try.func53, Try.ntmps53
      go_wp2
      go_ret
      exact ⟨by simp [isT, h1, h2], rfl⟩
  · go_enter Try.func53, Try.ntmps53
    go_wp2
    go_ret
    exact ⟨congrArg (fun b => Ending.returned (.bool b)) (by simp [isT]; omega), rfl⟩
theorem both_any (a b : Int) (w : World) : Calls Try.prog 81 #[.int .i64 a, .int .i64 b] w fun e w' => e = .returned (.bool (isT a && isT b)) ∧ w = w' := by
  cases ha : isT a
  all_goals
    go_enter Try.func81, Try.ntmps81
    go_wp2_with (go_at_call 53; refine (is_any _ _).mono ?_; rintro e w' ⟨rfl, rfl⟩)
    go_ret
    exact ⟨by simp [ha], rfl⟩
/-- A time put to one, or why there is none. -/
theorem add_yes {a b : Int} (ha : 0 ≤ a ∧ a ≤ 1099511627776) (hb : 0 ≤ b) (hs : a + b ≤ 1099511627776) (w : World) : Calls Try.prog 69 #[.int .i64 a, .int .i64 b] w fun e w' => e = .returned (.tuple #[.int .i64 (a + b), .int .i64 0]) ∧ w = w' := by
  have h : (isT a && isT b) = true := by rw [isT_iff.2 ha, isT_iff.2 ⟨hb, by omega⟩]; rfl
  have hc := fun w => both_any a b w
  rw [h] at hc
  have hl : b ≤ 1099511627776 - a := by omega
  go_enter Try.func69, Try.ntmps69
  go_wp2_with (go_at_call 81; refine (hc _).mono ?_; rintro e w' ⟨rfl, rfl⟩)
  go_ret2
  exact ⟨rfl, rfl⟩
theorem add_no {a b : Int} (ha : 0 ≤ a ∧ a ≤ 1099511627776) (hb : 0 ≤ b ∧ b ≤ 9223372036854775807) (hs : 1099511627776 < a + b) (w : World) : Calls Try.prog 69 #[.int .i64 a, .int .i64 b] w fun e w' => (∃ c, e = .returned (.tuple #[.int .i64 0, .int .i64 c]) ∧ (c != 0) = true) ∧ w = w' := by
  have hc := fun w => both_any a b w
  rw [isT_iff.2 ha, Bool.true_and] at hc
  cases h : isT b
  · rw [h] at hc
    go_enter Try.func69, Try.ntmps69
    go_wp2_with (go_at_call 81; refine (hc _).mono ?_; rintro e w' ⟨rfl, rfl⟩)
    go_ret2
    exact ⟨⟨1, rfl, rfl⟩, rfl⟩
  · rw [h] at hc
    have hl : 1099511627776 - a < b := by omega
    have hb2 := isT_iff.1 h
    go_enter Try.func69, Try.ntmps69
    go_wp2_with (go_at_call 81; refine (hc _).mono ?_; rintro e w' ⟨rfl, rfl⟩)
    go_ret2
    exact ⟨⟨2, rfl, rfl⟩, rfl⟩
def okO (x : O) : Bool := decide ((x.1 = 1 ∧ x.2.1 ≠ [] ∧ x.2.2 = 0) ∨ (x.1 = 2 ∧ x.2.1 = [] ∧ 0 < x.2.2) ∨ (x.1 = 3 ∧ x.2.1 = [] ∧ x.2.2 = 0))
set_option maxHeartbeats 1000000 in
theorem right_any (k n : Int) (s : Str) (w : World) : Calls Try.prog 71 #[.agg #[.int .i64 k, .string ⟨s.toArray⟩, .int .i64 n]] w fun e w' => e = .returned (.bool (okO (k, s, n))) ∧ Fr No w w' := by
  by_cases hs : s = []
  · subst hs
    by_cases h1 : k = 1
    · subst h1
      rw [show okO (1, [], n) = false by simp [okO]]
      go_enter Try.func71, Try.ntmps71
      go_wp2
      go_ret
      exact ⟨rfl, (Fr.refl _ _).alloc _⟩
    by_cases h2 : k = 2
    · subst h2
      rw [show okO (2, [], n) = decide (0 < n) by simp [okO]]
      go_enter Try.func71, Try.ntmps71
      go_wp2
      go_ret
      exact ⟨rfl, (Fr.refl _ _).alloc _⟩
    by_cases h3 : k = 3
    · subst h3
      rw [show okO (3, [], n) = (n == 0) by simp [okO]; rfl]
      go_enter Try.func71, Try.ntmps71
      go_wp2
      go_ret
      exact ⟨rfl, (Fr.refl _ _).alloc _⟩
    · rw [show okO (k, [], n) = false by simp [okO, h1, h2, h3]]
      have e1 : (k == 1) = false := beq_eq_false_iff_ne.2 h1
      have e2 : (k == 2) = false := beq_eq_false_iff_ne.2 h2
      have e3 : (k == 3) = false := beq_eq_false_iff_ne.2 h3
      clear h1 h2 h3
      go_enter Try.func71, Try.ntmps71
      go_wp2
      go_ret
      exact ⟨rfl, (Fr.refl _ _).alloc _⟩
  · have hb : s.isEmpty = false := by simpa using hs
    by_cases h1 : k = 1
    · subst h1
      rw [show okO (1, s, n) = (n == 0) by simp [okO, hs]; rfl]
      clear hs
      go_enter Try.func71, Try.ntmps71
      go_wp2
      go_ret
      exact ⟨rfl, (Fr.refl _ _).alloc _⟩
    by_cases h2 : k = 2
    · subst h2
      rw [show okO (2, s, n) = false by simp [okO, hs]]
      clear hs
      go_enter Try.func71, Try.ntmps71
      go_wp2
      go_ret
      exact ⟨rfl, (Fr.refl _ _).alloc _⟩
    by_cases h3 : k = 3
    · subst h3
      rw [show okO (3, s, n) = false by simp [okO, hs]]
      clear hs
      go_enter Try.func71, Try.ntmps71
      go_wp2
      go_ret
      exact ⟨rfl, (Fr.refl _ _).alloc _⟩
    · rw [show okO (k, s, n) = false by simp [okO, h1, h2, h3]]
      have e1 : (k == 1) = false := beq_eq_false_iff_ne.2 h1
      have e2 : (k == 2) = false := beq_eq_false_iff_ne.2 h2
      have e3 : (k == 3) = false := beq_eq_false_iff_ne.2 h3
      clear h1 h2 h3 hs
      go_enter Try.func71, Try.ntmps71
      go_wp2
      go_ret
      exact ⟨rfl, (Fr.refl _ _).alloc _⟩
end Run
end Go.Proofs.Ytnfkkonmhinlcaa
