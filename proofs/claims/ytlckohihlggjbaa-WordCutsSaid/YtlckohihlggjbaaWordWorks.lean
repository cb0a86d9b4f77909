/- The examples of the statements of package word. -/
import Derived.Test.YtlckohihlggjbaaWordSort
import Derived.Test.YtlckohihlggjbaaWordMatch
import Derived.Test.YtlckohihlggjbaaWordSame
namespace Go.Proofs.Ytlckohihlggjbaa
open Go.RowKit
set_option linter.unusedVariables false
set_option linter.unusedSimpArgs false
namespace Word
theorem wk1 : cutR [32, 99, 97, 108, 108, 32, 32, 119, 101, 98, 49, 9] = [[99, 97, 108, 108], [119, 101, 98, 49]] := by decide
theorem wk2 : sortR [[98], [97], [98]] = [[97], [98]] := by decide
theorem wk3 : isR [119, 101, 98, 45, 49, 46, 97] = true := by decide
theorem wk4 : isR [49, 119, 101, 98] = false := by decide
theorem wk5 : isR [] = false := by decide
theorem wk6 : fitsR [119, 101, 98, 42] = true := by decide
theorem wk7 : fitsR [119, 101, 32, 98] = false := by decide
theorem wk8 : matchR [119, 42, 98, 63] [119, 101, 101, 101, 98, 49] = true := by decide
theorem wk9 : matchR [119, 42, 98, 63] [119, 101, 98] = false := by decide
theorem wk10 : matchR [42] [] = true := by decide
theorem wk11 : joinR [[97], [98]] = [97, 32, 98] := by decide
/-- A literal of texts. -/
theorem lit_strs (W : World) (l : List Str) (hl : ∀ x ∈ l, x.length ≤ 1000) (hn : l.length ≤ 1000) : RSl 1 RStr (W.alloc (.cells (l.map encS).toArray 9)) (Of (.slice (some ⟨W.heap.size, 0, none⟩) l.length l.length)) [.slice (some ⟨W.heap.size, 0, none⟩) l.length l.length] l := by
  have h := World.ownsRow_lit (base := 0) (e := 9) (size := 1) W (l.map encS).toArray l.length (Nat.zero_le _) (by unfold maxLen; omega) (by simp)
  exact own_strs h (fun x hx => by have := hl x hx; unfold maxLen; omega)
theorem lit2 (W : World) (a b : Str) (ha : a.length ≤ 1000) (hb : b.length ≤ 1000) : RSl 1 RStr (W.alloc (.cells #[.string ⟨a.toArray⟩, .string ⟨b.toArray⟩] 9)) (Of (.slice (some ⟨W.heap.size, 0, none⟩) 2 2)) [.slice (some ⟨W.heap.size, 0, none⟩) 2 2] [a, b] :=
  lit_strs W [a, b] (fun x hx => by simp at hx; rcases hx with rfl | rfl <;> assumption) (by simp)
theorem lit3 (W : World) (a b c : Str) (ha : a.length ≤ 1000) (hb : b.length ≤ 1000) (hc : c.length ≤ 1000) : RSl 1 RStr (W.alloc (.cells #[.string ⟨a.toArray⟩, .string ⟨b.toArray⟩, .string ⟨c.toArray⟩] 9)) (Of (.slice (some ⟨W.heap.size, 0, none⟩) 3 3)) [.slice (some ⟨W.heap.size, 0, none⟩) 3 3] [a, b, c] :=
  lit_strs W [a, b, c] (fun x hx => by simp at hx; rcases hx with rfl | rfl | rfl <;> assumption) (by simp)
theorem own2 {w : World} {v : Value} {a b : Str} (h : w.ownsRow 0 9 1 v 2 ([a, b].map encS)) (ha : a.length ≤ 1000) (hb : b.length ≤ 1000) : RSl 1 RStr w (Of v) [v] [a, b] :=
  own_strs h (fun x hx => by simp at hx; unfold maxLen; rcases hx with rfl | rfl <;> omega)
set_option maxRecDepth 100000 in
set_option maxHeartbeats 4000000 in
theorem works_any (w : World) : Calls Try.prog 42 #[] w fun e w' => e = .returned (.bool true) ∧ Fr No w w' := by
  go_enter Try.func42, Try.ntmps42
  go_wp2_with fail
  refine (cut_any [32, 99, 97, 108, 108, 32, 32, 119, 101, 98, 49, 9] _ (by decide)).mono ?_
  rintro e w1 ⟨v1, rfl, ho1, hs1⟩
  rw [wk1] at ho1
  obtain ⟨A1, c1, hu⟩ := own_form ho1
  subst hu
  have H1 := Lib.hid (And.intro ho1 hs1)
  clear ho1 hs1
  go_wp2_with fail
  have L3 := lit3 w1 [98] [97] [98] (by decide) (by decide) (by decide)
  refine (wsort_any (.slice (some ⟨w1.heap.size, 0, none⟩) 3 3) [[98], [97], [98]] _ _ L3 (by decide)).mono ?_
  clear L3
  rintro e w2 ⟨v2, rfl, ho2, hs2⟩
  rw [wk2] at ho2
  obtain ⟨A2, c2, hu⟩ := own_form ho2
  subst hu
  have H2 := Lib.hid (And.intro ho2 hs2)
  have H12 : Hid (w2.ownsRow 0 9 1 (.slice A1 2 c1) 2 ([[99, 97, 108, 108], [119, 101, 98, 49]].map encS) ∧ Fr No w w2) := Lib.hid ⟨own_fr (H1.out.1.alloc _) hs2.1 (fun k hk h => h), (H1.out.2.1.alloc _).then_no hs2.1⟩
  clear ho2 hs2 H1
  go_wp2_with fail
  refine (is_any [119, 101, 98, 45, 49, 46, 97] (by unfold maxLen; decide) _).mono ?_
  rintro e w3 ⟨rfl, rfl⟩
  rw [wk3]
  go_wp2_with fail
  refine (is_any [49, 119, 101, 98] (by unfold maxLen; decide) _).mono ?_
  rintro e w3 ⟨rfl, rfl⟩
  rw [wk4]
  go_wp2_with fail
  refine (is_any [] (by unfold maxLen; decide) _).mono ?_
  rintro e w3 ⟨rfl, rfl⟩
  rw [wk5]
  go_wp2_with fail
  refine (fits_any [119, 101, 98, 42] (by unfold maxLen; decide) _).mono ?_
  rintro e w3 ⟨rfl, rfl⟩
  rw [wk6]
  go_wp2_with fail
  refine (fits_any [119, 101, 32, 98] (by unfold maxLen; decide) _).mono ?_
  rintro e w3 ⟨rfl, rfl⟩
  rw [wk7]
  go_wp2_with fail
  refine (match_any [119, 42, 98, 63] [119, 101, 101, 101, 98, 49] (by unfold maxLen; decide) (by decide) _).mono ?_
  rintro e w3 ⟨rfl, hf⟩
  rw [wk8]
  have F3 := Lib.hid hf; clear hf
  go_wp2_with fail
  refine (match_any [119, 42, 98, 63] [119, 101, 98] (by unfold maxLen; decide) (by decide) _).mono ?_
  rintro e w4 ⟨rfl, hf⟩
  rw [wk9]
  have F4 := Lib.hid (F3.out.then_no hf); clear hf
  go_wp2_with fail
  refine (match_any [42] [] (by unfold maxLen; decide) (by decide) _).mono ?_
  rintro e w5 ⟨rfl, hf⟩
  rw [wk10]
  have F5 := Lib.hid (F4.out.then_no hf); clear hf
  have HA := Lib.hid (own_fr H12.out.1 F5.out (fun k hk h => h))
  have HB := Lib.hid (own_fr H2.out.1 F5.out (fun k hk h => h))
  go_wp2_with fail
  have L5 := lit2 w5 [99, 97, 108, 108] [119, 101, 98, 49] (by decide) (by decide)
  have M5 := own2 (HA.out.alloc (.cells #[.string ⟨#[99, 97, 108, 108]⟩, .string ⟨#[119, 101, 98, 49]⟩] 9)) (by decide) (by decide)
  refine (same_any (.slice A1 2 c1) (.slice (some ⟨w5.heap.size, 0, none⟩) 2 2) [[99, 97, 108, 108], [119, 101, 98, 49]] [[99, 97, 108, 108], [119, 101, 98, 49]] _ _ _ M5 L5).mono ?_
  clear L5 M5
  rintro e w6 ⟨rfl, n6, rfl⟩
  rw [show decide (([[99, 97, 108, 108], [119, 101, 98, 49]] : List Str) = [[99, 97, 108, 108], [119, 101, 98, 49]]) = true from rfl]
  obtain ⟨W6, hW6⟩ : ∃ W, (w5.alloc (.cells #[.string ⟨#[99, 97, 108, 108]⟩, .string ⟨#[119, 101, 98, 49]⟩] 9)).drewN n6 = W := ⟨_, rfl⟩
  have F6 : Hid (Fr No w2 W6) := Lib.hid (hW6 ▸ (F5.out.alloc _).drewN _)
  have HB6 : Hid (W6.ownsRow 0 9 1 (.slice A2 2 c2) 2 ([[97], [98]].map encS)) := Lib.hid (own_fr H2.out.1 F6.out (fun k hk h => h))
  first | rw [hW6] | (simp only [hW6])
  clear hW6 HA HB
  go_wp2_with fail
  have L6 := lit2 W6 [97] [98] (by decide) (by decide)
  have M6 := own2 (HB6.out.alloc (.cells #[.string ⟨#[97]⟩, .string ⟨#[98]⟩] 9)) (by decide) (by decide)
  refine (same_any (.slice A2 2 c2) (.slice (some ⟨W6.heap.size, 0, none⟩) 2 2) [[97], [98]] [[97], [98]] _ _ _ M6 L6).mono ?_
  clear L6 M6
  rintro e w7 ⟨rfl, n7, rfl⟩
  rw [show decide (([[97], [98]] : List Str) = [[97], [98]]) = true from rfl]
  obtain ⟨W7, hW7⟩ : ∃ W, (W6.alloc (.cells #[.string ⟨#[97]⟩, .string ⟨#[98]⟩] 9)).drewN n7 = W := ⟨_, rfl⟩
  have F7 : Hid (Fr No w2 W7) := Lib.hid (hW7 ▸ (F6.out.alloc _).drewN _)
  first | rw [hW7] | (simp only [hW7])
  clear hW7 HB6
  go_wp2_with fail
  have L7 := lit2 W7 [97] [98] (by decide) (by decide)
  refine (join_any (.slice (some ⟨W7.heap.size, 0, none⟩) 2 2) [[97], [98]] _ _ (fun k hk => by have hk' : some W7.heap.size = some k := hk; injection hk' with hk'; subst hk'; simp) L7 (by decide)).mono ?_
  clear L7
  rintro e w8 ⟨rfl, hf⟩
  rw [wk11]
  have F8 := Lib.hid ((H12.out.2.then_no F7.out).alloc (.cells #[.string ⟨#[97]⟩, .string ⟨#[98]⟩] 9)|>.then_no hf); clear hf
  go_wp2
  go_ret
  exact ⟨rfl, F8.out⟩
end Word
end Go.Proofs.Ytlckohihlggjbaa
