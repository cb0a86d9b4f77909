/- Package brk in plain terms: the step with which a text begins, steps read, steps as text; what is put is read as the same. No program in sight. -/
import Derived.Test.YtnfkkonmhinlcaaMergedA
namespace Go.Proofs.Ytnfkkonmhinlcaa
open Go.RowKit
set_option linter.unusedVariables false
set_option linter.unusedSimpArgs false
namespace Brk
open Digit
/-- Kind, bytes, ticks. -/
abbrev Op := Int × Str × Int
abbrev waitO (n : Nat) : Op := (2, [], (n : Int))
abbrev sendO (s : Str) : Op := (1, s, 0)
def bad : Op × Nat := ((0, [], 0), 0)
/-- Two digits' number; 0: there is none. -/
def numR (s : Str) : Nat := match s with
  | a :: b :: _ => if (48 ≤ a.toNat ∧ a.toNat ≤ 57) ∧ 48 ≤ b.toNat ∧ b.toNat ≤ 57 then 10 * (a.toNat - 48) + (b.toNat - 48) else 0
  | _ => 0
theorem num_le (s : Str) : numR s ≤ 99 := by
  unfold numR
  split
  · split
    · omega
    · omega
  · omega
theorem num_len (s : Str) (h : numR s ≠ 0) : 2 ≤ s.length := by
  match s with
  | [] => exact absurd rfl h
  | [a] => exact absurd rfl h
  | a :: b :: t => simp
def escR (d : UInt8) (r : Str) : Op × Nat :=
  if d = 92 then ((1, [92], 0), 2) else if d = 114 then ((1, [13], 0), 2) else if d = 110 then ((1, [10], 0), 2) else if d = 116 then ((1, [9], 0), 2)
  else if d = 100 then ((2, [], 1), 2) else if d = 122 then ((3, [], 0), 2)
  else if d = 119 then (if numR r = 0 then bad else ((2, [], (numR r : Nat)), 4))
  else if d = 120 then (if (readHexR (r.take 2)).2 = 0 then ((1, [UInt8.ofNat (readHexR (r.take 2)).1], 0), 4) else bad)
  else bad
/-- The step with which a text begins, and how many bytes it has; 0: there is none. -/
def stepR : Str → Op × Nat
  | [] => bad
  | c :: t => if c = 92 then (match t with | [] => bad | d :: r => escR d r) else if c.toNat < 32 ∨ 126 < c.toNat then bad else ((1, [c], 0), 1)
/-- The ops that one step may be. -/
inductive One : Op → Prop
  | send (c : UInt8) : One (1, [c], 0)
  | wait (n : Nat) (h1 : 1 ≤ n) (h2 : n ≤ 99) : One (2, [], (n : Nat))
  | stop : One (3, [], 0)
theorem esc_one (d : UInt8) (r : Str) (h : (escR d r).2 ≠ 0) : One (escR d r).1 ∧ (escR d r).2 ≤ 2 + r.length := by
  unfold escR at h ⊢
  split
  · exact ⟨.send _, by simp⟩
  split
  · exact ⟨.send _, by simp⟩
  split
  · exact ⟨.send _, by simp⟩
  split
  · exact ⟨.send _, by simp⟩
  split
  · exact ⟨.wait 1 (by omega) (by omega), by simp⟩
  split
  · exact ⟨.stop, by simp⟩
  split
  · split
    · rename_i h7 h8
      simp_all [bad]
    · rename_i h7 h8
      have := num_len r h8
      exact ⟨.wait _ (by omega) (num_le r), by simp; omega⟩
  split
  · split
    · rename_i h7 h8
      have := readHexR_lt (r.take 2)
      refine ⟨.send _, ?_⟩
      rw [h8] at this
      have h9 := this.2.elim (fun h => h.2) (fun h => by cases h)
      simp at h9
      simp
      omega
    · rename_i h7 h8
      simp_all [bad]
  · simp_all [bad]
theorem step_one (s : Str) (h : (stepR s).2 ≠ 0) : One (stepR s).1 ∧ (stepR s).2 ≤ s.length := by
  match s with
  | [] => exact absurd rfl h
  | c :: t =>
    by_cases hc : c = 92
    · subst hc
      match t with
      | [] => exact absurd rfl h
      | d :: r =>
        have e : stepR (92 :: d :: r) = escR d r := rfl
        rw [e] at h ⊢
        have := esc_one d r h
        exact ⟨this.1, by simp; omega⟩
    · have e : stepR (c :: t) = if c.toNat < 32 ∨ 126 < c.toNat then bad else ((1, [c], 0), 1) := by
        show (if c = 92 then _ else _) = _
        rw [if_neg hc]
      rw [e] at h ⊢
      split
      · rename_i hx
        rw [if_pos hx] at h
        exact absurd rfl h
      · exact ⟨.send _, by simp⟩
theorem step_sign (c : UInt8) (t : Str) : stepR (signR c ++ t) = ((1, [c], 0), (signR c).length) := by
  by_cases h92 : c = 92
  · subst h92; rfl
  by_cases h10 : c = 10
  · subst h10; rfl
  by_cases h13 : c = 13
  · subst h13; rfl
  by_cases h9 : c = 9
  · subst h9; rfl
  have hs : signR c = if c.toNat < 32 ∨ 126 < c.toNat then 92 :: 120 :: hexR c.toNat else [c] := by unfold signR; rw [if_neg h92, if_neg h10, if_neg h13, if_neg h9]
  by_cases g : c.toNat < 32 ∨ 126 < c.toNat
  · rw [if_pos g] at hs
    rw [hs]
    have e : stepR (92 :: 120 :: hexR c.toNat ++ t) = if (readHexR ((hexR c.toNat ++ t).take 2)).2 = 0 then ((1, [UInt8.ofNat (readHexR ((hexR c.toNat ++ t).take 2)).1], 0), 4) else bad := rfl
    have e2 : (hexR c.toNat ++ t).take 2 = hexR c.toNat := rfl
    rw [e, e2, readHex_hex _ c.toNat_lt]
    simp [hexR]
  · rw [if_neg g] at hs
    rw [hs]
    show (if c = 92 then _ else if c.toNat < 32 ∨ 126 < c.toNat then bad else ((1, [c], 0), 1)) = _
    rw [if_neg h92, if_neg g]
    rfl
theorem step_stop (t : Str) : stepR ([92, 122] ++ t) = ((3, [], 0), 2) := rfl
theorem step_d (t : Str) : stepR ([92, 100] ++ t) = ((2, [], 1), 2) := rfl
/-- Two digits of a number. -/
def two (n : Nat) : Str := [UInt8.ofNat (48 + n / 10), UInt8.ofNat (48 + n % 10)]
theorem two_pad (n : Nat) (h : n ≤ 99) : padR n 2 = two n := by
  have hn : (n : Int).natAbs = n := rfl
  unfold padR two
  rw [if_neg (by omega), hn]
  by_cases h1 : n < 10
  · have e : dec n = [UInt8.ofNat (48 + n)] := by rw [dec, if_pos h1]
    rw [e, show n / 10 = 0 by omega, show n % 10 = n by omega]
    rfl
  · have e : dec n = [UInt8.ofNat (48 + n / 10), UInt8.ofNat (48 + n % 10)] := by
      rw [dec, if_neg h1, dec, if_pos (by omega)]; rfl
    rw [e]
    rfl
theorem num_two (n : Nat) (h : n ≤ 99) (t : Str) : numR (two n ++ t) = n := by
  have e1 : (UInt8.ofNat (48 + n / 10)).toNat = 48 + n / 10 := by rw [UInt8.toNat_ofNat']; omega
  have e2 : (UInt8.ofNat (48 + n % 10)).toNat = 48 + n % 10 := by rw [UInt8.toNat_ofNat']; omega
  show (if (48 ≤ (UInt8.ofNat (48 + n / 10)).toNat ∧ _) ∧ _ then _ else _) = _
  rw [e1, e2, if_pos (by omega)]
  omega
theorem two_num (a b : UInt8) (t : Str) (h : numR (a :: b :: t) ≠ 0) : two (numR (a :: b :: t)) = [a, b] := by
  have e : numR (a :: b :: t) = if (48 ≤ a.toNat ∧ a.toNat ≤ 57) ∧ 48 ≤ b.toNat ∧ b.toNat ≤ 57 then 10 * (a.toNat - 48) + (b.toNat - 48) else 0 := rfl
  by_cases hd : (48 ≤ a.toNat ∧ a.toNat ≤ 57) ∧ 48 ≤ b.toNat ∧ b.toNat ≤ 57
  · rw [if_pos hd] at e
    rw [e]
    unfold two
    rw [show 48 + (10 * (a.toNat - 48) + (b.toNat - 48)) / 10 = a.toNat by omega, show 48 + (10 * (a.toNat - 48) + (b.toNat - 48)) % 10 = b.toNat by omega]
    simp
  · rw [if_neg hd] at e
    exact absurd e h
theorem step_w (n : Nat) (h1 : 1 ≤ n) (h : n ≤ 99) (t : Str) : stepR ([92, 119] ++ two n ++ t) = (waitO n, 4) := by
  have e : stepR ([92, 119] ++ two n ++ t) = if numR (two n ++ t) = 0 then bad else ((2, [], (numR (two n ++ t) : Nat)), 4) := rfl
  rw [e, num_two n h, if_neg (by omega)]
/-- Steps of a kind side by side as one. -/
def joinR (a b : Op) : Op := (a.1, a.2.1 ++ b.2.1, a.2.2 + b.2.2)
def push (l : List Op) (x : Op) : List Op := match l.getLast? with
  | some y => if y.1 = x.1 ∧ x.1 < 3 then l.dropLast ++ [joinR y x] else l ++ [x]
  | none => [x]
theorem push_nil (x : Op) : push [] x = [x] := rfl
theorem push_join {l : List Op} {y x : Op} (h : y.1 = x.1) (h3 : x.1 < 3) : push (l ++ [y]) x = l ++ [joinR y x] := by
  unfold push
  simp [h, h3]
theorem push_on {l : List Op} {y x : Op} (h : ¬ (y.1 = x.1 ∧ x.1 < 3)) : push (l ++ [y]) x = l ++ [y] ++ [x] := by
  unfold push
  rw [List.getLast?_concat]
  simp only
  rw [if_neg h]
def readG : Nat → Str → List Op → Option (List Op)
  | 0, s, l => if s = [] then some l else none
  | f + 1, s, l => if s = [] then some l else if (stepR s).2 = 0 then none else readG f (s.drop (stepR s).2) (push l (stepR s).1)
theorem read_fuel (f : Nat) : ∀ g s l, s.length ≤ f → s.length ≤ g → readG f s l = readG g s l := by
  induction f with
  | zero =>
    intro g s l h1 h2
    have : s = [] := List.eq_nil_of_length_eq_zero (by omega)
    subst this
    cases g <;> rfl
  | succ f ih =>
    intro g s l h1 h2
    by_cases hs : s = []
    · subst hs; cases g <;> rfl
    · cases g with
      | zero => exact absurd (List.eq_nil_of_length_eq_zero (by omega)) hs
      | succ g =>
        unfold readG
        rw [if_neg hs, if_neg hs]
        split
        · rfl
        · rename_i hc
          rw [ih g (s.drop (stepR s).2) _ (by simp; omega) (by simp; omega)]
/-- What is left of a text, behind steps that were read. -/
def readL (s : Str) (l : List Op) : Option (List Op) := readG s.length s l
theorem readL_nil (l : List Op) : readL [] l = some l := rfl
theorem readL_bad {s : Str} (l : List Op) (hs : s ≠ []) (h : (stepR s).2 = 0) : readL s l = none := by
  unfold readL
  cases hl : s.length with
  | zero => exact absurd (List.eq_nil_of_length_eq_zero hl) hs
  | succ f => rw [readG, if_neg hs, if_pos h]
theorem readL_on {s : Str} (l : List Op) (hs : s ≠ []) (h : (stepR s).2 ≠ 0) : readL s l = readL (s.drop (stepR s).2) (push l (stepR s).1) := by
  unfold readL
  cases hl : s.length with
  | zero => exact absurd (List.eq_nil_of_length_eq_zero hl) hs
  | succ f =>
    rw [readG, if_neg hs, if_neg h]
    exact read_fuel _ _ _ _ (by simp; omega) (Nat.le_refl _)
theorem readL_step {s t : Str} {x : Op} (l : List Op) (hs : s ≠ []) (h : stepR (s ++ t) = (x, s.length)) : readL (s ++ t) l = readL t (push l x) := by
  have hl : s.length ≠ 0 := fun e => hs (List.eq_nil_of_length_eq_zero e)
  rw [readL_on l (fun e => hs (List.append_eq_nil_iff.1 e).1) (by rw [h]; exact hl), h]
  simp
def readR (s : Str) : List Op × Int := if 255 < s.length then ([], 5) else match readL s [] with | some l => (l, 0) | none => ([], 3)
/-! ### Sums -/
def sumN (l : List Op) : Int := (l.map (·.2.2)).sum
def allS (l : List Op) : Str := l.flatMap (·.2.1)
theorem sumN_snoc (l : List Op) (x : Op) : sumN (l ++ [x]) = sumN l + x.2.2 := by simp [sumN]
theorem allS_snoc (l : List Op) (x : Op) : allS (l ++ [x]) = allS l ++ x.2.1 := by simp [allS]
theorem snoc_cases (l : List Op) : l = [] ∨ ∃ a y, l = a ++ [y] := by
  by_cases h : l = []
  · exact .inl h
  · exact .inr ⟨l.dropLast, l.getLast h, (List.dropLast_concat_getLast h).symm⟩
theorem push_cases (l : List Op) (x : Op) : push l x = l ++ [x] ∨ ∃ a y, l = a ++ [y] ∧ y.1 = x.1 ∧ x.1 < 3 ∧ push l x = a ++ [joinR y x] := by
  rcases snoc_cases l with rfl | ⟨a, y, rfl⟩
  · exact .inl rfl
  · by_cases h : y.1 = x.1 ∧ x.1 < 3
    · exact .inr ⟨a, y, rfl, h.1, h.2, push_join h.1 h.2⟩
    · exact .inl (push_on h)
theorem push_sumN (l : List Op) (x : Op) : sumN (push l x) = sumN l + x.2.2 := by
  rcases push_cases l x with h | ⟨a, y, rfl, _, _, h⟩
  · rw [h, sumN_snoc]
  · rw [h, sumN_snoc, sumN_snoc]; show sumN a + (y.2.2 + x.2.2) = _; omega
theorem push_allS (l : List Op) (x : Op) : allS (push l x) = allS l ++ x.2.1 := by
  rcases push_cases l x with h | ⟨a, y, rfl, _, _, h⟩
  · rw [h, allS_snoc]
  · rw [h, allS_snoc, allS_snoc]; simp [joinR]
theorem push_len (l : List Op) (x : Op) : (push l x).length ≤ l.length + 1 := by
  rcases push_cases l x with h | ⟨a, y, rfl, _, _, h⟩
  · rw [h]; simp
  · rw [h]; simp
/-! ### What may be put -/
/-- The forms of an op that may be put. -/
inductive Fine : Op → Prop
  | send (s : Str) (h : s ≠ []) : Fine (1, s, 0)
  | wait (n : Nat) (h : 1 ≤ n) : Fine (2, [], (n : Nat))
  | stop : Fine (3, [], 0)
theorem One.fine {x : Op} (h : One x) : Fine x := by
  cases h with
  | send c => exact .send _ (by simp)
  | wait n h1 h2 => exact .wait n h1
  | stop => exact .stop
theorem One.bounds {x : Op} (h : One x) : x.2.1.length ≤ 1 ∧ 0 ≤ x.2.2 ∧ x.2.2 ≤ 99 := by
  cases h with
  | send c => exact ⟨by simp, by simp, by simp⟩
  | wait n h1 h2 => exact ⟨by simp, by simp, by simp; omega⟩
  | stop => exact ⟨by simp, by simp, by simp⟩
theorem Fine.join {y x : Op} (hy : Fine y) (hx : Fine x) (h : y.1 = x.1) (h3 : x.1 < 3) : Fine (joinR y x) := by
  cases hx with
  | send s hs =>
    cases hy with
    | send t ht => exact .send _ (by simp [ht])
    | wait n hn => exact absurd h (by simp)
    | stop => exact absurd h (by simp)
  | wait n hn =>
    cases hy with
    | send t ht => exact absurd h (by simp)
    | wait m hm => exact .wait (m + n) (by omega)
    | stop => exact absurd h (by simp)
  | stop => exact absurd h3 (by simp)
/-- The rows that may be put: p is the kind of what stands ahead. -/
inductive Good : Int → List Op → Prop
  | nil (p : Int) : Good p []
  | cons {p : Int} {x : Op} {l : List Op} (hx : Fine x) (hp : ¬ (p = x.1 ∧ x.1 < 3)) (hl : Good x.1 l) : Good p (x :: l)
def lastK (p : Int) (l : List Op) : Int := match l.getLast? with | some y => y.1 | none => p
theorem lastK_snoc (p : Int) (l : List Op) (y : Op) : lastK p (l ++ [y]) = y.1 := by simp [lastK]
theorem lastK_cons (p : Int) (l : List Op) (y : Op) : lastK p (y :: l) = lastK y.1 l := by
  unfold lastK
  cases l with
  | nil => rfl
  | cons a l =>
    rw [List.getLast?_cons_cons]
    obtain ⟨z, hz⟩ : ∃ z, (a :: l).getLast? = some z := ⟨_, List.getLast?_eq_some_getLast (by simp)⟩
    rw [hz]
theorem good_snoc {l : List Op} : ∀ {p : Int} {x : Op}, Good p (l ++ [x]) ↔ Good p l ∧ Fine x ∧ ¬ (lastK p l = x.1 ∧ x.1 < 3) := by
  induction l with
  | nil =>
    intro p x
    constructor
    · intro h
      cases h with
      | cons hx hp hl => exact ⟨.nil p, hx, hp⟩
    · rintro ⟨_, hx, hp⟩
      exact .cons hx hp (.nil _)
  | cons y l ih =>
    intro p x
    rw [List.cons_append, lastK_cons]
    constructor
    · intro h
      cases h with
      | cons hx hp hl =>
        obtain ⟨h1, h2, h3⟩ := ih.1 hl
        exact ⟨.cons hx hp h1, h2, h3⟩
    · rintro ⟨h1, h2, h3⟩
      cases h1 with
      | cons hx hp hl => exact .cons hx hp (ih.2 ⟨hl, h2, h3⟩)
theorem push_good {l : List Op} {x : Op} (h : Good 0 l) (hx : One x) : Good 0 (push l x) := by
  rcases snoc_cases l with rfl | ⟨a, y, rfl⟩
  · rw [push_nil]
    refine .cons hx.fine (fun e => ?_) (.nil _)
    cases hx <;> exact absurd e.1 (by simp)
  · by_cases hj : y.1 = x.1 ∧ x.1 < 3
    · rw [push_join hj.1 hj.2]
      obtain ⟨h1, h2, h3⟩ := good_snoc.1 h
      refine good_snoc.2 ⟨h1, h2.join hx.fine hj.1 hj.2, ?_⟩
      show ¬ (lastK 0 a = y.1 ∧ y.1 < 3)
      exact h3
    · rw [push_on hj]
      refine good_snoc.2 ⟨h, hx.fine, ?_⟩
      rw [lastK_snoc]
      exact hj
theorem readG_good (f : Nat) : ∀ s acc l, Good 0 acc → readG f s acc = some l → Good 0 l := by
  induction f with
  | zero =>
    intro s acc l h hr
    unfold readG at hr
    split at hr
    · injection hr with hr; subst hr; exact h
    · cases hr
  | succ f ih =>
    intro s acc l h hr
    unfold readG at hr
    split at hr
    · injection hr with hr; subst hr; exact h
    · split at hr
      · cases hr
      · rename_i hc
        exact ih _ _ _ (push_good h (step_one s hc).1) hr
theorem readL_good {s : Str} {l : List Op} (h : readL s [] = some l) : Good 0 l := readG_good _ _ _ _ (.nil _) h
/-! ### Text -/
def rep : Nat → Str
  | 0 => []
  | k + 1 => rep k ++ [92, 119, 57, 57]
theorem rep_len (k : Nat) : (rep k).length = 4 * k := by
  induction k with
  | zero => rfl
  | succ k ih => simp [rep, ih]; omega
/-- How many waits of 99 stand ahead, with what is left: as many as are written. -/
def cntG : Nat → Nat → Nat → Nat
  | 0, k, n => k
  | f + 1, k, n => if 99 < n ∧ 4 * k ≤ 255 then cntG f (k + 1) (n - 99) else k
theorem cntG_stop (f k n : Nat) (h : ¬ (99 < n ∧ 4 * k ≤ 255)) : cntG f k n = k := by
  cases f with
  | zero => rfl
  | succ f => rw [cntG, if_neg h]
theorem cntG_on (f k n : Nat) (h : 99 < n ∧ 4 * k ≤ 255) : cntG (f + 1) k n = cntG f (k + 1) (n - 99) := by rw [cntG, if_pos h]
def cnt (n : Nat) : Nat := cntG 64 0 n
def waitR (n : Nat) : Str := if n - 99 * cnt n = 1 then rep (cnt n) ++ [92, 100] else rep (cnt n) ++ [92, 119] ++ padR ((n - 99 * cnt n : Nat) : Int) 2
theorem cntG_all (f : Nat) : ∀ k n, 1 ≤ n → 64 ≤ f + k → k ≤ 64 → k ≤ cntG f k n ∧ cntG f k n ≤ 64 ∧ 99 * (cntG f k n - k) < n ∧ (cntG f k n < 64 → n - 99 * (cntG f k n - k) ≤ 99) := by
  induction f with
  | zero => intro k n h1 h2 h3; refine ⟨Nat.le_refl _, h3, by simp only [cntG]; omega, fun h => ?_⟩; simp only [cntG] at h; omega
  | succ f ih =>
    intro k n h1 h2 h3
    by_cases hc : 99 < n ∧ 4 * k ≤ 255
    · rw [cntG_on f k n hc]
      obtain ⟨g1, g2, g3, g4⟩ := ih (k + 1) (n - 99) (by omega) (by omega) (by omega)
      exact ⟨by omega, g2, by omega, fun h => by have := g4 h; omega⟩
    · rw [cntG_stop _ _ _ hc]
      exact ⟨Nat.le_refl _, h3, by omega, fun h => by omega⟩
theorem cnt_all (n : Nat) (h : 1 ≤ n) : cnt n ≤ 64 ∧ 99 * cnt n < n ∧ (cnt n < 64 → n - 99 * cnt n ≤ 99) := by
  obtain ⟨_, g2, g3, g4⟩ := cntG_all 64 0 n h (by omega) (by omega)
  exact ⟨g2, by simpa [cnt] using g3, fun h => by simpa [cnt] using g4 h⟩
theorem wait_len (n : Nat) (h : 1 ≤ n) (hn : n ≤ 9223372036854775807) : 4 * cnt n ≤ (waitR n).length ∧ (waitR n).length ≤ 300 := by
  have hc := cnt_all n h
  have hp : (padR ((n - 99 * cnt n : Nat) : Int) 2).length ≤ 22 := by
    unfold padR
    split
    · simp
    · have := dec_20 (n := ((n - 99 * cnt n : Nat) : Int).natAbs) (by omega)
      rw [List.length_append, List.length_replicate]
      omega
  unfold waitR
  split
  · simp [rep_len]; omega
  · simp [rep_len]; omega
def textR (x : Op) : Option Str :=
  if x.1 = 1 ∧ x.2.1 ≠ [] ∧ x.2.2 = 0 then some (showR x.2.1) else if x.1 = 2 ∧ x.2.1 = [] ∧ 0 < x.2.2 then some (waitR x.2.2.toNat)
  else if x.1 = 3 ∧ x.2.1 = [] ∧ x.2.2 = 0 then some [92, 122] else none
theorem text_fine (x : Op) : (textR x).isSome = true ↔ Fine x := by
  obtain ⟨k, s, n⟩ := x
  constructor
  · intro h
    unfold textR at h
    split at h
    · rename_i hc
      obtain ⟨h1, h2, h3⟩ := hc
      simp only at h1 h2 h3
      subst h1 h3
      exact .send s h2
    · split at h
      · rename_i hc
        obtain ⟨h1, h2, h3⟩ := hc
        simp only at h1 h2 h3
        subst h1 h2
        have := Fine.wait n.toNat (by omega)
        rw [show ((n.toNat : Nat) : Int) = n by omega] at this
        exact this
      · split at h
        · rename_i hc
          obtain ⟨h1, h2, h3⟩ := hc
          simp only at h1 h2 h3
          subst h1 h2 h3
          exact .stop
        · cases h
  · intro h
    cases h with
    | send s hs => simp [textR, hs]
    | wait n hn => simp [textR]; omega
    | stop => simp [textR]
theorem text_send {s : Str} (h : s ≠ []) : textR (1, s, 0) = some (showR s) := by simp [textR, h]
theorem text_wait {n : Nat} (h : 1 ≤ n) : textR (2, [], (n : Nat)) = some (waitR n) := by
  unfold textR
  rw [if_neg (by simp), if_pos ⟨rfl, rfl, by show (0 : Int) < n; omega⟩]
  simp
theorem text_stop : textR (3, [], 0) = some [92, 122] := rfl
def tx (x : Op) : Str := (textR x).getD []
def cat (l : List Op) : Str := l.flatMap tx
noncomputable def putR (l : List Op) : Str × Int := by
  classical exact if Good 0 l then (if 255 < (cat l).length then ([], 5) else (cat l, 0)) else ([], 1)
theorem put_bad {l : List Op} (h : ¬ Good 0 l) : putR l = ([], 1) := by unfold putR; rw [if_neg h]
theorem put_long {l : List Op} (h : Good 0 l) (hl : 255 < (cat l).length) : putR l = ([], 5) := by unfold putR; rw [if_pos h, if_pos hl]
theorem put_yes {l : List Op} (h : Good 0 l) (hl : (cat l).length ≤ 255) : putR l = (cat l, 0) := by unfold putR; rw [if_pos h, if_neg (by omega)]
/-! ### What is put is read as the same -/
theorem read_show (s : Str) : ∀ (acc : List Op) (q t : Str), readL (showR s ++ t) (acc ++ [sendO q]) = readL t (acc ++ [sendO (q ++ s)]) := by
  induction s with
  | nil => intro acc q t; simp [showR]
  | cons c s ih =>
    intro acc q t
    have e : showR (c :: s) ++ t = signR c ++ (showR s ++ t) := by simp [showR]
    have hn : signR c ≠ [] := fun h => by have := (sign_len c).1; rw [h] at this; simp at this
    rw [e, readL_step _ hn (step_sign c _), push_join (y := sendO q) (x := sendO [c]) rfl (by simp)]
    show readL _ (acc ++ [sendO (q ++ [c])]) = _
    rw [ih, List.append_assoc]
    rfl
theorem read_rep (k : Nat) : ∀ (acc : List Op) (m : Nat) (t : Str), readL (rep k ++ t) (acc ++ [waitO m]) = readL t (acc ++ [waitO (m + 99 * k)]) := by
  induction k with
  | zero => intro acc m t; rfl
  | succ k ih =>
    intro acc m t
    have e : rep (k + 1) ++ t = rep k ++ ([92, 119, 57, 57] ++ t) := by simp [rep]
    rw [e, ih]
    have h2 : stepR ([92, 119, 57, 57] ++ t) = (waitO 99, 4) := step_w 99 (by omega) (by omega) t
    rw [readL_step _ (by simp) h2, push_join (y := waitO (m + 99 * k)) (x := waitO 99) rfl (by simp)]
    show readL t (acc ++ [(2, [], ((m + 99 * k : Nat) : Int) + ((99 : Nat) : Int))]) = _
    rw [show ((m + 99 * k : Nat) : Int) + ((99 : Nat) : Int) = ((m + 99 * (k + 1) : Nat) : Int) by omega]
/-- A step of another kind than what stands ahead. -/
theorem push_new {acc : List Op} {x : Op} (h : ¬ (lastK 0 acc = x.1 ∧ x.1 < 3)) : push acc x = acc ++ [x] := by
  rcases snoc_cases acc with rfl | ⟨a, y, rfl⟩
  · rfl
  · rw [lastK_snoc] at h
    exact push_on h
theorem read_text {x : Op} (hx : Fine x) (acc : List Op) (t : Str) (h : ¬ (lastK 0 acc = x.1 ∧ x.1 < 3)) (hl : (tx x).length ≤ 255) : readL (tx x ++ t) acc = readL t (acc ++ [x]) := by
  cases hx with
  | send s hs =>
    have e : tx (1, s, 0) = showR s := by unfold tx; rw [text_send hs]; rfl
    rw [e]
    cases s with
    | nil => exact absurd rfl hs
    | cons c s =>
      have e : showR (c :: s) ++ t = signR c ++ (showR s ++ t) := by simp [showR]
      have hn : signR c ≠ [] := fun h => by have := (sign_len c).1; rw [h] at this; simp at this
      rw [e, readL_step _ hn (step_sign c _), push_new (x := sendO [c]) h, read_show]
      rfl
  | wait n hn =>
    have e : tx (2, [], (n : Nat)) = waitR n := by unfold tx; rw [text_wait hn]; rfl
    rw [e] at hl ⊢
    have hc := cnt_all n hn
    obtain ⟨k, hk⟩ : ∃ k, k = cnt n := ⟨_, rfl⟩
    obtain ⟨r, hr⟩ : ∃ r, r = n - 99 * k := ⟨_, rfl⟩
    have hw : waitR n = rep k ++ (if r = 1 then [92, 100] else [92, 119] ++ padR (r : Nat) 2) := by
      unfold waitR
      rw [← hk, ← hr]
      split
      · rfl
      · simp
    rw [← hk] at hc
    have hk64 : k < 64 := by
      have h4 : (waitR n).length = 4 * k + (if r = 1 then [92, 100] else [92, 119] ++ padR (r : Nat) 2 : Str).length := by rw [hw, List.length_append, rep_len]
      have h5 : 2 ≤ (if r = 1 then [92, 100] else [92, 119] ++ padR (r : Nat) 2 : Str).length := by split <;> simp
      omega
    have hr99 : r ≤ 99 := by have := hc.2.2 hk64; omega
    have hr1 : 1 ≤ r := by omega
    -- the last piece
    obtain ⟨p, hp⟩ : ∃ p : Str, p = if r = 1 then [92, 100] else [92, 119] ++ padR (r : Nat) 2 := ⟨_, rfl⟩
    have hpn : p ≠ [] := by rw [hp]; split <;> simp
    have hps : ∀ t, stepR (p ++ t) = (waitO r, p.length) := by
      intro t
      rw [hp]
      by_cases h1 : r = 1
      · rw [if_pos h1, h1]; rfl
      · rw [if_neg h1, two_pad r hr99, step_w r hr1 hr99 t]; rfl
    rw [hw, ← hp, List.append_assoc]
    cases k with
    | zero =>
      show readL (p ++ t) acc = _
      rw [readL_step _ hpn (hps t), push_new (x := waitO r) h, hr]
      rfl
    | succ k =>
      have e1 : rep (k + 1) ++ (p ++ t) = [92, 119, 57, 57] ++ (rep k ++ (p ++ t)) := by
        have : ∀ k, rep (k + 1) = [92, 119, 57, 57] ++ rep k := by
          intro k
          induction k with
          | zero => rfl
          | succ k ih =>
            show rep (k + 1) ++ _ = [92, 119, 57, 57] ++ (rep k ++ _)
            rw [ih]; simp
        rw [this]; simp
      have h2 : ∀ t, stepR ([92, 119, 57, 57] ++ t) = (waitO 99, 4) := fun t => step_w 99 (by omega) (by omega) t
      rw [e1, readL_step _ (by simp) (h2 _), push_new (x := waitO 99) h, read_rep, readL_step _ hpn (hps t), push_join (y := waitO (99 + 99 * k)) (x := waitO r) rfl (by simp)]
      show readL t (acc ++ [(2, [], ((99 + 99 * k : Nat) : Int) + ((r : Nat) : Int))]) = _
      rw [show ((99 + 99 * k : Nat) : Int) + ((r : Nat) : Int) = ((n : Nat) : Int) by omega]
  | stop => exact (readL_step acc (s := [92, 122]) (by simp) (step_stop t)).trans (by rw [push_new h])
theorem read_cat (l : List Op) : ∀ acc, Good (lastK 0 acc) l → (cat l).length ≤ 255 → readL (cat l) acc = some (acc ++ l) := by
  induction l with
  | nil => intro acc _ _; simp [cat, readL_nil]
  | cons x l ih =>
    intro acc h hl
    have e : cat (x :: l) = tx x ++ cat l := by simp [cat]
    rw [e] at hl ⊢
    rw [List.length_append] at hl
    cases h with
    | cons hx hp hg =>
      rw [read_text hx acc _ hp (by omega), ih (acc ++ [x]) (by rw [lastK_snoc]; exact hg) (by omega)]
      simp
/-- What is put is read as the same. -/
theorem put_read {l : List Op} {s : Str} (h : putR l = (s, 0)) : readR s = (l, 0) := by
  by_cases hg : Good 0 l
  · by_cases hl : 255 < (cat l).length
    · rw [put_long hg hl] at h; cases h
    · rw [put_yes hg (by omega)] at h
      injection h with h _
      subst h
      unfold readR
      rw [if_neg hl, read_cat l [] hg (by omega)]
      rfl
  · rw [put_bad hg] at h; cases h
theorem readR_code (s : Str) : (readR s).2 = 0 ∨ (readR s).2 ≠ 0 ∧ (readR s).1 = [] := by
  unfold readR
  split
  · exact .inr ⟨by decide, rfl⟩
  · split
    · exact .inl rfl
    · exact .inr ⟨by decide, rfl⟩
theorem readR_yes {s : Str} {l : List Op} (h : readR s = (l, 0)) : s.length ≤ 255 ∧ readL s [] = some l := by
  unfold readR at h
  split at h
  · cases h
  · split at h
    · rename_i hs
      injection h with h _
      subst h
      exact ⟨by omega, hs⟩
    · cases h
/-- What was read, put: as long as it has room. -/
theorem short {s : Str} {l : List Op} (h : readR s = (l, 0)) : putR l = ([], 5) ∨ putR l = (cat l, 0) ∧ readR (cat l) = (l, 0) := by
  have hg := readL_good (readR_yes h).2
  by_cases hl : 255 < (cat l).length
  · exact .inl (put_long hg hl)
  · have hp := put_yes hg (by omega)
    exact .inr ⟨hp, put_read hp⟩
end Brk
end Go.Proofs.Ytnfkkonmhinlcaa
