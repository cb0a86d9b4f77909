/- Contracts of package calc and of its reference: what each function returns, for any integers; nothing in memory changes. -/
import Derived.Test.YtkmlmjglipmdcaaRows
import Derived.Test.YtkmlmjglipmdcaaMem
import Derived.WalkKit
import Derived.BigQuiet
import Derived.Outline
import Derived.Lib.Hide
import Derived.Deep.QuietTactic
namespace Go.Proofs.Ytkmlmjglipmdcaa
open Go.RowKit
set_option linter.unusedVariables false
set_option linter.unusedSimpArgs false
namespace Calc
def isT (n : Int) : Bool := decide (0 ≤ n ∧ n ≤ 1099511627776)
theorem isT_iff {n : Int} : isT n = true ↔ 0 ≤ n ∧ n ≤ 1099511627776 := by simp [isT]
theorem isT_not {n : Int} : isT n = false ↔ n < 0 ∨ 1099511627776 < n := by simp [isT]; omega
/-- An integer of 64 bits. -/
def I64 (n : Int) : Prop := -9223372036854775808 ≤ n ∧ n ≤ 9223372036854775807
theorem i64_of {n : Int} (h : (Lit.int .i64 n).wf = true) : I64 n := by
  simpa [Lit.wf, IntKind.min, IntKind.max, IntKind.signed, IntKind.bits, I64] using h
def addR (a b : Int) : Int × Int := if isT a && isT b then (if b ≤ 1099511627776 - a then (a + b, 0) else (0, 2)) else (0, 1)
def subR (a b : Int) : Int × Int := if isT a && isT b then (if b ≤ a then (a - b, 0) else (0, 2)) else (0, 1)
def mulR (a b : Int) : Int × Int := if isT a && isT b then (if a * b ≤ 1099511627776 then (a * b, 0) else (0, 2)) else (0, 1)
def pair (x : Int × Int) : Value := .tuple #[.int .i64 x.1, .int .i64 x.2]
theorem pair_eq {x : Int × Int} {a b : Int} (h : x = (a, b)) : Ending.returned (.tuple #[.int .i64 a, .int .i64 b]) = .returned (pair x) := by rw [h]; rfl

theorem is_any (n : Int) (w : World) : Calls Try.prog 20 #[.int .i64 n] w fun e w' => e = .returned (.bool (isT n)) ∧ w = w' := by
  by_cases h1 : 0 ≤ n
  · by_cases h2 : n ≤ 1099511627776
    all_goals
      go_enter Try.func20, Try.ntmps20
      go_wp2
      go_ret
      exact ⟨by simp [isT, h1, h2], rfl⟩
  · go_enter Try.func20, Try.ntmps20
    go_wp2
    go_ret
    exact ⟨congrArg (fun b => Ending.returned (.bool b)) (by simp [isT]; omega), rfl⟩
/-- Doubled n times, and held. -/
def dbl (most : Int) : Nat → Int → Int
  | 0, b => b
  | n + 1, b => dbl most n (min (b + b) most)
theorem dbl_most (m : Int) (h : 0 ≤ m) : ∀ n, dbl m n m = m
  | 0 => rfl
  | n + 1 => by
    show dbl m n (min (m + m) m) = m
    rw [show min (m + m) m = m by omega]
    exact dbl_most m h n
theorem dbl_zero (m : Int) (h : 0 ≤ m) : ∀ n, dbl m n 0 = 0
  | 0 => rfl
  | n + 1 => by
    show dbl m n (min (0 + 0) m) = 0
    rw [show min (0 + 0) m = (0 : Int) by omega]
    exact dbl_zero m h n
theorem dbl_in (m : Int) : ∀ n b, 0 ≤ b → b ≤ m → b ≤ dbl m n b ∧ dbl m n b ≤ m
  | 0, b, h0, h => ⟨Int.le_refl _, h⟩
  | n + 1, b, h0, h => by
    have := dbl_in m n (min (b + b) m) (by omega) (by omega)
    exact ⟨Int.le_trans (by omega) this.1, this.2⟩
theorem dbl_succ (m : Int) : ∀ n b, dbl m (n + 1) b = min (dbl m n b + dbl m n b) m
  | 0, b => rfl
  | n + 1, b => by
    show dbl m (n + 1) (min (b + b) m) = _
    rw [dbl_succ m n]
    rfl
/-- What is not the cap behind n doublings is zero, or at least 2 to the n. -/
theorem dbl_big (m : Int) : ∀ n b, 1 ≤ b → b ≤ m → dbl m n b = m ∨ 2 ^ n ≤ dbl m n b
  | 0, b, h1, h => .inr (by simpa [dbl] using h1)
  | n + 1, b, h1, h => by
    rw [dbl_succ]
    have hp : (2 : Int) ^ (n + 1) = 2 ^ n + 2 ^ n := by rw [Int.pow_succ]; omega
    rcases dbl_big m n b h1 h with h2 | h2
    · rw [h2]; left; omega
    · rw [hp]; omega
theorem dbl_64 (m : Int) (h0 : m ≤ 1099511627776) (b : Int) (hb : 0 ≤ b) (h : b ≤ m) (n : Nat) (hn : 41 ≤ n) : dbl m n b = dbl m 41 b := by
  by_cases hz : b = 0
  · subst hz; rw [dbl_zero _ h, dbl_zero _ h]
  · have h41 : dbl m 41 b = m := by
      rcases dbl_big m 41 b (by omega) h with h2 | h2
      · exact h2
      · have := (dbl_in m 41 b hb h).2
        have e : (2 : Int) ^ 41 = 2199023255552 := by decide
        omega
    obtain ⟨k, rfl⟩ : ∃ k, n = 41 + k := ⟨n - 41, by omega⟩
    clear hn
    induction k with
    | zero => rfl
    | succ k ih => rw [show 41 + (k + 1) = (41 + k) + 1 from rfl, dbl_succ, ih, h41]; omega
def dblOk (base n most : Int) : Bool := isT base && isT most && decide (base ≤ most) && decide (0 ≤ n)
theorem dblOk_iff {b n m : Int} : dblOk b n m = true ↔ 0 ≤ b ∧ b ≤ m ∧ m ≤ 1099511627776 ∧ 0 ≤ n := by simp [dblOk, isT]; omega
def dblR (base n most : Int) : Int × Int := if dblOk base n most then (dbl most n.toNat base, 0) else (0, 1)
theorem dblR_yes {b n m : Int} (h : dblOk b n m = true) : dblR b n m = (dbl m n.toNat b, 0) := by simp [dblR, h]
theorem dblR_no {b n m : Int} (h : dblOk b n m = false) : dblR b n m = (0, 1) := by simp [dblR, h]
def holdR (n low high : Int) : Int := if n < low ∨ high < low then low else if high < n then high else n
/-- One behind the other, from s on. -/
def totR : Int → List Int → Int × Int
  | s, [] => (s, 0)
  | s, a :: l => if (addR s a).2 = 0 then totR (addR s a).1 l else (0, (addR s a).2)
theorem totR_snoc_no {s : Int} {l : List Int} {i : Nat} {x : Int} (hi : i < l.length) (h : totR s l = totR x (l.drop i)) (hn : (addR x l[i]).2 ≠ 0) : totR s l = (0, (addR x l[i]).2) := by
  rw [h, List.drop_eq_getElem_cons hi]
  simp [totR, hn]
theorem totR_snoc_yes {s : Int} {l : List Int} {i : Nat} {x : Int} (hi : i < l.length) (h : totR s l = totR x (l.drop i)) (hn : (addR x l[i]).2 = 0) : totR s l = totR (addR x l[i]).1 (l.drop (i + 1)) := by
  rw [h, List.drop_eq_getElem_cons hi]
  simp [totR, hn]
def divR (a b : Int) : Int × Int × Int := if isT a && isT b && b != 0 then (a / b, a % b, 0) else (0, 0, 1)
theorem divR_yes {a b : Int} (ha : isT a = true) (hb : isT b = true) (hz : b ≠ 0) : divR a b = (a / b, a % b, 0) := by simp [divR, ha, hb, hz]
theorem divR_no {a b : Int} (h : isT a = false ∨ isT b = false ∨ b = 0) : divR a b = (0, 0, 1) := by
  unfold divR; rw [if_neg]; intro hh; simp at hh; rcases h with h | h | h
  · rw [h] at hh; simp at hh
  · rw [h] at hh; simp at hh
  · exact hh.2 h
def trip (x : Int × Int × Int) : Value := .tuple #[.int .i64 x.1, .int .i64 x.2.1, .int .i64 x.2.2]
end Calc
end Go.Proofs.Ytkmlmjglipmdcaa
