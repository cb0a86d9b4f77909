/- Contracts of package calc and of its reference: what each function returns, for any integers; nothing in memory changes. -/
import Derived.Test.YtnfkkonmhinlcaaRows
import Derived.Test.YtnfkkonmhinlcaaMem
import Derived.WalkKit
import Derived.BigQuiet
import Derived.Outline
import Derived.Lib.Hide
import Derived.Deep.QuietTactic
namespace Go.Proofs.Ytnfkkonmhinlcaa
open Go.RowKit
set_option linter.unusedVariables false
set_option linter.unusedSimpArgs false
namespace Calc
def isT (n : Int) : Bool := decide (0 ≤ n ∧ n ≤ 1099511627776)
theorem isT_iff {n : Int} : isT n = true ↔ 0 ≤ n ∧ n ≤ 1099511627776 := by simp [isT]
theorem isT_not {n : Int} : isT n = false ↔ n < 0 ∨ 1099511627776 < n := by simp [isT]; omega
/-- An integer of 64 bits. -/
def I64 (n : Int) : Prop := -9223372036854775808 ≤ n ∧ n ≤ 9223372036854775807
theorem i64_of {n : Int} (h : (Lit.int .i64 n).wf = true) : I64 n := by
  simpa [Lit.wf, IntKind.min, IntKind.max, IntKind.signed, IntKind.bits, I64] using h
def addR (a b : Int) : Int × Int := if isT a && isT b then (if b ≤ 1099511627776 - a then (a + b, 0) else (0, 2)) else (0, 1)
def subR (a b : Int) : Int × Int := if isT a && isT b then (if b ≤ a then (a - b, 0) else (0, 2)) else (0, 1)
def mulR (a b : Int) : Int × Int := if isT a && isT b then (if a * b ≤ 1099511627776 then (a * b, 0) else (0, 2)) else (0, 1)
def pair (x : Int × Int) : Value := .tuple #[.int .i64 x.1, .int .i64 x.2]
theorem pair_eq {x : Int × Int} {a b : Int} (h : x = (a, b)) : Ending.returned (.tuple #[.int .i64 a, .int .i64 b]) = .returned (pair x) := by rw [h]; rfl

theorem is_any (n : Int) (w : World) : Calls Try.prog 53 #[.int .i64 n] w fun e w' => e = .returned (.bool (isT n)) ∧ w = w' := by
  by_cases h1 : 0 ≤ n
  · by_cases h2 : n ≤ 1099511627776
    all_goals
      go_enter Try.func53, Try.ntmps53
      go_wp2
      go_ret
      exact ⟨by simp [isT, h1, h2], rfl⟩
  · go_enter Try.func53, Try.ntmps53
    go_wp2
    go_ret
    exact ⟨congrArg (fun b => Ending.returned (.bool b)) (by simp [isT]; omega), rfl⟩
theorem ris_any (n : Int) (w : World) : Calls Try.prog 66 #[.int .i64 n] w fun e w' => e = .returned (.bool (isT n)) ∧ w = w' := by
  by_cases h1 : 0 ≤ n
  · by_cases h2 : n ≤ 1099511627776
    all_goals
      go_enter Try.func66, Try.ntmps66
      go_wp2
      go_ret
      exact ⟨by simp [isT, h1, h2], rfl⟩
  · go_enter Try.func66, Try.ntmps66
    go_wp2
    go_ret
    exact ⟨congrArg (fun b => Ending.returned (.bool b)) (by simp [isT]; omega), rfl⟩
theorem both_any (a b : Int) (w : World) : Calls Try.prog 81 #[.int .i64 a, .int .i64 b] w fun e w' => e = .returned (.bool (isT a && isT b)) ∧ w = w' := by
  cases ha : isT a
  all_goals
    go_enter Try.func81, Try.ntmps81
    go_wp2_with (go_at_call 53; refine (is_any _ _).mono ?_; rintro e w' ⟨rfl, rfl⟩)
    go_ret
    exact ⟨by simp [ha], rfl⟩
theorem add_any (a b : Int) (w : World) : Calls Try.prog 69 #[.int .i64 a, .int .i64 b] w fun e w' => e = .returned (pair (addR a b)) ∧ w = w' := by
  cases hb : isT a && isT b
  · go_enter Try.func69, Try.ntmps69
    go_wp2_with (go_at_call 81; refine (both_any _ _ _).mono ?_; rintro e w' ⟨rfl, rfl⟩)
    go_ret2
    exact ⟨pair_eq (by simp [addR, hb]), rfl⟩
  · have hb' := hb
    rw [Bool.and_eq_true] at hb'
    obtain ⟨h1, h2⟩ := isT_iff.1 hb'.1
    obtain ⟨h3, h4⟩ := isT_iff.1 hb'.2
    by_cases hc : b ≤ 1099511627776 - a
    all_goals
      go_enter Try.func69, Try.ntmps69
      go_wp2_with (go_at_call 81; refine (both_any _ _ _).mono ?_; rintro e w' ⟨rfl, rfl⟩)
      go_ret2
      exact ⟨pair_eq (by unfold addR; rw [hb, if_pos rfl]; first | exact if_pos (by omega) | exact if_neg (by omega)), rfl⟩
/-- Doubled n times, and held. -/
def dbl (most : Int) : Nat → Int → Int
  | 0, b => b
  | n + 1, b => dbl most n (min (b + b) most)
theorem dbl_most (m : Int) (h : 0 ≤ m) : ∀ n, dbl m n m = m
  | 0 => rfl
  | n + 1 => by
    show dbl m n (min (m + m) m) = m
    rw [show min (m + m) m = m by omega]
    exact dbl_most m h n
theorem dbl_zero (m : Int) (h : 0 ≤ m) : ∀ n, dbl m n 0 = 0
  | 0 => rfl
  | n + 1 => by
    show dbl m n (min (0 + 0) m) = 0
    rw [show min (0 + 0) m = (0 : Int) by omega]
    exact dbl_zero m h n
theorem dbl_in (m : Int) : ∀ n b, 0 ≤ b → b ≤ m → b ≤ dbl m n b ∧ dbl m n b ≤ m
  | 0, b, h0, h => ⟨Int.le_refl _, h⟩
  | n + 1, b, h0, h => by
    have := dbl_in m n (min (b + b) m) (by omega) (by omega)
    exact ⟨Int.le_trans (by omega) this.1, this.2⟩
theorem dbl_succ (m : Int) : ∀ n b, dbl m (n + 1) b = min (dbl m n b + dbl m n b) m
  | 0, b => rfl
  | n + 1, b => by
    show dbl m (n + 1) (min (b + b) m) = _
    rw [dbl_succ m n]
    rfl
/-- What is not the cap behind n doublings is zero, or at least 2 to the n. -/
theorem dbl_big (m : Int) : ∀ n b, 1 ≤ b → b ≤ m → dbl m n b = m ∨ 2 ^ n ≤ dbl m n b
  | 0, b, h1, h => .inr (by simpa [dbl] using h1)
  | n + 1, b, h1, h => by
    rw [dbl_succ]
    have hp : (2 : Int) ^ (n + 1) = 2 ^ n + 2 ^ n := by rw [Int.pow_succ]; omega
    rcases dbl_big m n b h1 h with h2 | h2
    · rw [h2]; left; omega
    · rw [hp]; omega
theorem dbl_64 (m : Int) (h0 : m ≤ 1099511627776) (b : Int) (hb : 0 ≤ b) (h : b ≤ m) (n : Nat) (hn : 41 ≤ n) : dbl m n b = dbl m 41 b := by
  by_cases hz : b = 0
  · subst hz; rw [dbl_zero _ h, dbl_zero _ h]
  · have h41 : dbl m 41 b = m := by
      rcases dbl_big m 41 b (by omega) h with h2 | h2
      · exact h2
      · have := (dbl_in m 41 b hb h).2
        have e : (2 : Int) ^ 41 = 2199023255552 := by decide
        omega
    obtain ⟨k, rfl⟩ : ∃ k, n = 41 + k := ⟨n - 41, by omega⟩
    clear hn
    induction k with
    | zero => rfl
    | succ k ih => rw [show 41 + (k + 1) = (41 + k) + 1 from rfl, dbl_succ, ih, h41]; omega
def dblOk (base n most : Int) : Bool := isT base && isT most && decide (base ≤ most) && decide (0 ≤ n)
theorem dblOk_iff {b n m : Int} : dblOk b n m = true ↔ 0 ≤ b ∧ b ≤ m ∧ m ≤ 1099511627776 ∧ 0 ≤ n := by simp [dblOk, isT]; omega
def dblR (base n most : Int) : Int × Int := if dblOk base n most then (dbl most n.toNat base, 0) else (0, 1)
theorem dblR_yes {b n m : Int} (h : dblOk b n m = true) : dblR b n m = (dbl m n.toNat b, 0) := by simp [dblR, h]
theorem dblR_no {b n m : Int} (h : dblOk b n m = false) : dblR b n m = (0, 1) := by simp [dblR, h]
set_option maxHeartbeats 400000 in
theorem double_any (b n m : Int) (w : World) (hn : I64 n) : Calls Try.prog 80 #[.int .i64 b, .int .i64 n, .int .i64 m] w fun e w' => e = .returned (pair (dblR b n m)) ∧ w = w' := by
  cases hok : dblOk b n m
  · have hr := Lib.hid (dblR_no hok)
    by_cases h1 : (isT b && isT m) = true
    · have h2 : m < b ∨ n < 0 := by
        simp [dblOk, h1] at hok; omega
      clear hok
      by_cases h3 : m < b
      · clear h2
        go_enter Try.func80, Try.ntmps80
        go_wp2_with (go_at_call 81; refine (both_any _ _ _).mono ?_; rintro e w' ⟨rfl, rfl⟩)
        go_ret2
        exact ⟨pair_eq hr.out, rfl⟩
      · have h4 : n < 0 := by omega
        clear h2
        go_enter Try.func80, Try.ntmps80
        go_wp2_with (go_at_call 81; refine (both_any _ _ _).mono ?_; rintro e w' ⟨rfl, rfl⟩)
        go_ret2
        exact ⟨pair_eq hr.out, rfl⟩
    · have h1' : (isT b && isT m) = false := by simpa using h1
      clear h1 hok
      go_enter Try.func80, Try.ntmps80
      go_wp2_with (go_at_call 81; refine (both_any _ _ _).mono ?_; rintro e w' ⟨rfl, rfl⟩)
      go_ret2
      exact ⟨pair_eq hr.out, rfl⟩
  · have hr := Lib.hid (dblR_yes hok)
    obtain ⟨h1, h2, h3, h4⟩ := dblOk_iff.1 hok
    have h5 : (isT b && isT m) = true := by rw [Bool.and_eq_true]; exact ⟨isT_iff.2 ⟨by omega, by omega⟩, isT_iff.2 ⟨by omega, by omega⟩⟩
    clear hok
    obtain ⟨hn1, hn2⟩ := hn
    go_enter Try.func80, Try.ntmps80
    go_wp2_with (go_at_call 81; refine (both_any _ _ _).mono ?_; rintro e w' ⟨rfl, rfl⟩)
    go_loop [0, 1] (fun b' n' => ∃ (x : Int) (k : Nat), b' = .int .i64 x ∧ n' = .int .i64 k ∧ 0 ≤ x ∧ x ≤ m ∧ (k : Int) ≤ n ∧ Hid (dbl m k x = dbl m n.toNat b)) (fun _ n' => (intOf n').toNat)
    case atStart =>
      refine ⟨b, n.toNat, rfl, ?_, h1, h2, by omega, rfl⟩
      rw [Int.toNat_of_nonneg h4]
    case round =>
      obtain ⟨x, k, rfl, rfl, hx0, hx1, hk, hd⟩ := hrel
      by_cases hk0 : 0 < k
      · by_cases hxz : 0 < x
        · by_cases hxm : x < m
          · by_cases hxh : m / 2 < x
            · go_wp2
              go_ret2
              refine ⟨pair_eq (hr.out.trans ?_), rfl⟩
              have := hd.out
              obtain ⟨j, rfl⟩ : ∃ j, k = j + 1 := ⟨k - 1, by omega⟩
              rw [← this]
              show (dbl m j (min (x + x) m), 0) = _
              rw [show min (x + x) m = m by omega, dbl_most _ (by omega)]
            · have hxx : x + x ≤ m := by omega
              go_wp2
              go_round
              case rel =>
                obtain ⟨j, rfl⟩ : ∃ j, k = j + 1 := ⟨k - 1, by omega⟩
                refine ⟨x * 2, j, rfl, by go_num, by omega, by omega, by omega, ?_⟩
                have := hd.out
                show dbl m j (x * 2) = _
                rw [← this]
                show _ = dbl m j (min (x + x) m)
                rw [show min (x + x) m = x * 2 by omega]
              case measure => simp [intOf]; omega
          · go_wp2
            go_ret2
            refine ⟨pair_eq (hr.out.trans ?_), rfl⟩
            have := hd.out
            rw [← this]
            obtain rfl : x = m := by omega
            rw [dbl_most _ (by omega)]
        · obtain rfl : x = 0 := by omega
          go_wp2
          go_ret2
          refine ⟨pair_eq (hr.out.trans ?_), rfl⟩
          have := hd.out
          rw [← this, dbl_zero _ (by omega)]
      · obtain rfl : k = 0 := by omega
        go_wp2
        go_ret2
        refine ⟨pair_eq (hr.out.trans ?_), rfl⟩
        have := hd.out
        rw [← this]
        rfl
set_option maxHeartbeats 400000 in
theorem rdouble_any (b n m : Int) (w : World) (hn : I64 n) : Calls Try.prog 49 #[.int .i64 b, .int .i64 n, .int .i64 m] w fun e w' => e = .returned (pair (dblR b n m)) ∧ w = w' := by
  cases hok : dblOk b n m
  · have hr := Lib.hid (dblR_no hok)
    cases h1 : isT b
    · clear hok
      go_enter Try.func49, Try.ntmps49
      go_wp2_with (go_at_call 66; refine (ris_any _ _).mono ?_; rintro e w' ⟨rfl, rfl⟩)
      go_ret2
      exact ⟨pair_eq hr.out, rfl⟩
    · cases h2 : isT m
      · clear hok
        go_enter Try.func49, Try.ntmps49
        go_wp2_with (go_at_call 66; refine (ris_any _ _).mono ?_; rintro e w' ⟨rfl, rfl⟩)
        go_ret2
        exact ⟨pair_eq hr.out, rfl⟩
      · have h3 : m < b ∨ n < 0 := by simp [dblOk, h1, h2] at hok; omega
        clear hok
        by_cases h4 : m < b
        · clear h3
          go_enter Try.func49, Try.ntmps49
          go_wp2_with (go_at_call 66; refine (ris_any _ _).mono ?_; rintro e w' ⟨rfl, rfl⟩)
          go_ret2
          exact ⟨pair_eq hr.out, rfl⟩
        · have h5 : n < 0 := by omega
          clear h3
          go_enter Try.func49, Try.ntmps49
          go_wp2_with (go_at_call 66; refine (ris_any _ _).mono ?_; rintro e w' ⟨rfl, rfl⟩)
          go_ret2
          exact ⟨pair_eq hr.out, rfl⟩
  · have hr := Lib.hid (dblR_yes hok)
    obtain ⟨h1, h2, h3, h4⟩ := dblOk_iff.1 hok
    have h5 : isT b = true := isT_iff.2 ⟨by omega, by omega⟩
    have h6 : isT m = true := isT_iff.2 ⟨by omega, by omega⟩
    have hfin : ∀ (x : Int) (k : Nat), (k : Int) ≤ n → k ≤ 64 → ((k : Int) < n → 64 ≤ k) → x = dbl m k b → x = dbl m n.toNat b := by
      intro x k hk hk64 hx hd
      rw [hd]
      by_cases he : (k : Int) < n
      · have := hx he
        rw [dbl_64 m h3 b h1 h2 k (by omega), dbl_64 m h3 b h1 h2 n.toNat (by omega)]
      · rw [show n.toNat = k by omega]
    have Hfin := Lib.hid hfin
    clear hfin hok
    obtain ⟨hn1, hn2⟩ := hn
    go_enter Try.func49, Try.ntmps49
    go_wp2_with (go_at_call 66; refine (ris_any _ _).mono ?_; rintro e w' ⟨rfl, rfl⟩)
    go_loop [0, 8] (fun b' i' => ∃ (x : Int) (k : Nat), b' = .int .i64 x ∧ i' = .int .i64 k ∧ 0 ≤ x ∧ x ≤ m ∧ (k : Int) ≤ n ∧ k ≤ 64 ∧ Hid (x = dbl m k b)) (fun _ i' => 64 - (intOf i').toNat)
    case atStart =>
      exact ⟨b, 0, rfl, rfl, h1, h2, by omega, by omega, rfl⟩
    case round =>
      obtain ⟨x, k, rfl, rfl, hx0, hx1, hk, hk64, hd⟩ := hrel
      by_cases hkn : (k : Int) < n
      · by_cases hk6 : k < 64
        · by_cases hxx : x + x < m
          all_goals
            go_wp2
            go_round
            case rel =>
              refine ⟨min (x + x) m, k + 1, ?_, by go_num, by omega, by omega, by omega, by omega, ?_⟩
              · refine congrArg (Value.int .i64) ?_
                first | omega | (split <;> omega)
              · show min (x + x) m = dbl m (k + 1) b
                rw [dbl_succ, ← hd.out]
            case measure => simp [intOf]; omega
        · go_wp2
          go_ret2
          refine ⟨pair_eq (hr.out.trans ?_), rfl⟩
          rw [Hfin.out x k hk hk64 (by omega) hd.out]
      · go_wp2
        go_ret2
        refine ⟨pair_eq (hr.out.trans ?_), rfl⟩
        rw [Hfin.out x k hk hk64 (by omega) hd.out]
def holdR (n low high : Int) : Int := if n < low ∨ high < low then low else if high < n then high else n
/-- One behind the other, from s on. -/
def totR : Int → List Int → Int × Int
  | s, [] => (s, 0)
  | s, a :: l => if (addR s a).2 = 0 then totR (addR s a).1 l else (0, (addR s a).2)
theorem totR_snoc_no {s : Int} {l : List Int} {i : Nat} {x : Int} (hi : i < l.length) (h : totR s l = totR x (l.drop i)) (hn : (addR x l[i]).2 ≠ 0) : totR s l = (0, (addR x l[i]).2) := by
  rw [h, List.drop_eq_getElem_cons hi]
  simp [totR, hn]
theorem totR_snoc_yes {s : Int} {l : List Int} {i : Nat} {x : Int} (hi : i < l.length) (h : totR s l = totR x (l.drop i)) (hn : (addR x l[i]).2 = 0) : totR s l = totR (addR x l[i]).1 (l.drop (i + 1)) := by
  rw [h, List.drop_eq_getElem_cons hi]
  simp [totR, hn]
def divR (a b : Int) : Int × Int × Int := if isT a && isT b && b != 0 then (a / b, a % b, 0) else (0, 0, 1)
theorem divR_yes {a b : Int} (ha : isT a = true) (hb : isT b = true) (hz : b ≠ 0) : divR a b = (a / b, a % b, 0) := by simp [divR, ha, hb, hz]
theorem divR_no {a b : Int} (h : isT a = false ∨ isT b = false ∨ b = 0) : divR a b = (0, 0, 1) := by
  unfold divR; rw [if_neg]; intro hh; simp at hh; rcases h with h | h | h
  · rw [h] at hh; simp at hh
  · rw [h] at hh; simp at hh
  · exact hh.2 h
def trip (x : Int × Int × Int) : Value := .tuple #[.int .i64 x.1, .int .i64 x.2.1, .int .i64 x.2.2]
end Calc
end Go.Proofs.Ytnfkkonmhinlcaa
