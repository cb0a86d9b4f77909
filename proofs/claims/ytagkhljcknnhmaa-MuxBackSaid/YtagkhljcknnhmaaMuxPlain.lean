/- What the splitter of package mux tells, as tokens: plain, without the program. -/
import Derived.Test.YtagkhljcknnhmaaMuxBody
namespace Go.Proofs.Ytagkhljcknnhmaa
open Go.RowKit
set_option linter.unusedVariables false
set_option linter.unusedSimpArgs false
namespace Mux
/-- One part more, joined to the last one where both are bytes. -/
def joinStep (out : List (Str × Bool)) (x : Str × Bool) : List (Str × Bool) :=
  if x.2 = true then out ++ [x]
  else match out.getLast? with
    | some (s, false) => out.dropLast ++ [(s ++ x.1, false)]
    | _ => if x.1 = [] then out else out ++ [x]
def joinR (l : List (Str × Bool)) : List (Str × Bool) := l.foldl joinStep []
def tot (l : List (Str × Bool)) : Nat := (l.map (·.1.length)).sum
theorem tot_snoc (l : List (Str × Bool)) (x : Str × Bool) : tot (l ++ [x]) = tot l + x.1.length := by simp [tot]
theorem tot_mem {l : List (Str × Bool)} {x : Str × Bool} (h : x ∈ l) : x.1.length ≤ tot l := by
  induction l with
  | nil => cases h
  | cons a l ih =>
    have e : tot (a :: l) = a.1.length + tot l := by simp [tot]
    rw [e]
    rcases List.mem_cons.1 h with rfl | h
    · omega
    · have := ih h; omega
theorem join_tot (out : List (Str × Bool)) (x : Str × Bool) : tot (joinStep out x) ≤ tot out + x.1.length ∧ (joinStep out x).length ≤ out.length + 1 := by
  unfold joinStep
  split
  · rw [tot_snoc]; simp
  · split
    · rename_i s hs
      obtain ⟨r, rfl⟩ : ∃ r, out = r ++ [(s, false)] := by
        rcases List.eq_nil_or_concat out with rfl | ⟨r, y, rfl⟩
        · cases hs
        · rw [List.concat_eq_append] at *; simp at hs; exact ⟨r, by rw [hs]⟩
      rw [List.dropLast_concat, tot_snoc, tot_snoc]
      simp; omega
    · split
      · exact ⟨by omega, by omega⟩
      · rw [tot_snoc]; simp
theorem joinR_step {l : List (Str × Bool)} {k : Nat} (h : k < l.length) : joinR (l.take (k + 1)) = joinStep (joinR (l.take k)) l[k] := by
  unfold joinR
  rw [List.take_succ_eq_append_getElem h, List.foldl_append]; rfl
theorem tot_step {l : List (Str × Bool)} {k : Nat} (h : k < l.length) : tot (l.take (k + 1)) = tot (l.take k) + l[k].1.length := by
  rw [List.take_succ_eq_append_getElem h, tot_snoc]
theorem joinR_tot (l : List (Str × Bool)) (k : Nat) (h : k ≤ l.length) : tot (joinR (l.take k)) ≤ tot (l.take k) ∧ (joinR (l.take k)).length ≤ k := by
  induction k with
  | zero => simp [joinR, tot]
  | succ k ih =>
    obtain ⟨i1, i2⟩ := ih (by omega)
    have := join_tot (joinR (l.take k)) l[k]
    rw [joinR_step (by omega), tot_step (by omega)]
    omega
theorem tot_take (l : List (Str × Bool)) (k : Nat) : tot (l.take k) ≤ tot l := by
  have e : tot l = tot (l.take k) + tot (l.drop k) := by
    conv => lhs; rw [← List.take_append_drop k l]
    unfold tot; rw [List.map_append, List.sum_append]
  omega
inductive Tok where
  | d (c : UInt8)
  | r (s : Str)
def toks (x : Str × Bool) : List Tok := if x.2 = true then [.r x.1] else x.1.map .d
def tk (l : List (Str × Bool)) : List Tok := l.flatMap toks
def jstep (out : List (Str × Bool)) : Tok → List (Str × Bool)
  | .d c => joinStep out ([c], false)
  | .r s => out ++ [(s, true)]
theorem tk_append (l m : List (Str × Bool)) : tk (l ++ m) = tk l ++ tk m := by simp [tk]
theorem join_nil (out : List (Str × Bool)) : joinStep out ([], false) = out := by
  unfold joinStep
  simp only [Bool.false_eq_true, if_false]
  split
  · rename_i s hs
    rcases List.eq_nil_or_concat out with rfl | ⟨r, y, rfl⟩
    · cases hs
    · rw [List.concat_eq_append] at *; simp at hs; simp [hs]
  · simp
theorem join_two (out : List (Str × Bool)) (c : UInt8) (s : Str) : joinStep (joinStep out ([c], false)) (s, false) = joinStep out (c :: s, false) := by
  rcases List.eq_nil_or_concat out with rfl | ⟨r, y, rfl⟩
  · simp [joinStep]
  · obtain ⟨y, b⟩ := y
    rw [List.concat_eq_append]
    cases b <;> simp [joinStep]
theorem join_d (s : Str) : ∀ out, joinStep out (s, false) = (s.map Tok.d).foldl jstep out := by
  induction s with
  | nil => exact fun out => join_nil out
  | cons c s ih => intro out; rw [← join_two, ih]; rfl
theorem join_tk (l : List (Str × Bool)) : ∀ out, l.foldl joinStep out = (tk l).foldl jstep out := by
  induction l with
  | nil => intro out; rfl
  | cons x l ih =>
    intro out
    have e : tk (x :: l) = toks x ++ tk l := rfl
    rw [e, List.foldl_append, List.foldl_cons, ih]
    congr 1
    obtain ⟨s, b⟩ := x
    cases b
    · exact join_d s out
    · simp [joinStep, toks, jstep]
theorem joinR_tk {l m : List (Str × Bool)} (h : tk l = tk m) : joinR l = joinR m := by
  unfold joinR; rw [join_tk, join_tk, h]
/-- What the machine tells of any bytes, and where it is then. -/
def run : Nat → Str → Str → (Nat × Str) × List Tok
  | p, op, [] => ((p, op), [])
  | p, op, c :: s =>
    if (stepR p op c).2.2 = true then ((run (stepR p op c).1.1 [] s).1, (stepR p op c).2.1.map Tok.d ++ Tok.r (stepR p op c).1.2 :: (run (stepR p op c).1.1 [] s).2)
    else ((run (stepR p op c).1.1 (stepR p op c).1.2 s).1, (stepR p op c).2.1.map Tok.d ++ (run (stepR p op c).1.1 (stepR p op c).1.2 s).2)
theorem run_cons (p : Nat) (op : Str) (c : UInt8) (s : Str) : run p op (c :: s) =
    if (stepR p op c).2.2 = true then ((run (stepR p op c).1.1 [] s).1, (stepR p op c).2.1.map Tok.d ++ Tok.r (stepR p op c).1.2 :: (run (stepR p op c).1.1 [] s).2)
    else ((run (stepR p op c).1.1 (stepR p op c).1.2 s).1, (stepR p op c).2.1.map Tok.d ++ (run (stepR p op c).1.1 (stepR p op c).1.2 s).2) := rfl
theorem run_append (s : Str) : ∀ p op t, run p op (s ++ t) = ((run (run p op s).1.1 (run p op s).1.2 t).1, (run p op s).2 ++ (run (run p op s).1.1 (run p op s).1.2 t).2) := by
  induction s with
  | nil => intro p op t; rfl
  | cons c s ih =>
    intro p op t
    rw [List.cons_append, run_cons, run_cons]
    split
    · rw [ih]; simp
    · rw [ih]; simp
theorem tk_flush (data : Str) (out : List (Str × Bool)) : tk (flushR data out) = tk out ++ data.map Tok.d := by
  unfold flushR
  split
  · rename_i h; subst h; simp
  · rw [tk_append]; simp [tk, toks]
theorem feedR_run (s : Str) : ∀ p op data out, (feedR p op data out s).1 = (run p op s).1 ∧ tk (flushR (feedR p op data out s).2.1 (feedR p op data out s).2.2) = tk out ++ data.map Tok.d ++ (run p op s).2 := by
  induction s with
  | nil => intro p op data out; exact ⟨rfl, by rw [show feedR p op data out [] = ((p, op), (data, out)) from rfl, tk_flush]; simp [run]⟩
  | cons c s ih =>
    intro p op data out
    rw [feedR_cons, run_cons]
    split
    · obtain ⟨i1, i2⟩ := ih (stepR p op c).1.1 [] [] (flushR (data ++ (stepR p op c).2.1) out ++ [((stepR p op c).1.2, true)])
      refine ⟨i1, i2.trans ?_⟩
      rw [tk_append, tk_flush]
      simp [tk, toks]
    · obtain ⟨i1, i2⟩ := ih (stepR p op c).1.1 (stepR p op c).1.2 (data ++ (stepR p op c).2.1) out
      refine ⟨i1, i2.trans ?_⟩
      simp
theorem run_le (s : Str) : ∀ p op, p ≤ 4 → (run p op s).1.1 ≤ 4 ∧ (run p op s).1.2.length ≤ op.length + s.length := by
  induction s with
  | nil => intro p op h; exact ⟨h, by simp [run]⟩
  | cons c s ih =>
    intro p op h
    obtain ⟨h1, h2, h3⟩ := stepR_ends p op c h
    rw [run_cons]
    split
    · obtain ⟨i1, i2⟩ := ih (stepR p op c).1.1 [] h1
      exact ⟨i1, by simp at i2 ⊢; omega⟩
    · obtain ⟨i1, i2⟩ := ih (stepR p op c).1.1 (stepR p op c).1.2 h1
      exact ⟨i1, by simp at i2 ⊢; omega⟩
def sz (l : List (Str × Bool)) : Nat := tot l + l.length
theorem flush_sz (data : Str) (out : List (Str × Bool)) : sz (flushR data out) ≤ sz out + 2 * data.length := by
  unfold flushR sz
  split
  · omega
  · rename_i h
    have : data.length ≠ 0 := fun e => h (List.length_eq_zero_iff.1 e)
    rw [tot_snoc]; simp; omega
theorem feed_sz (s : Str) : ∀ p op data out, p ≤ 4 → sz (flushR (feedR p op data out s).2.1 (feedR p op data out s).2.2) ≤ sz out + 2 * data.length + op.length + 4 * s.length := by
  induction s with
  | nil => intro p op data out _; have := flush_sz data out; show sz (flushR data out) ≤ _; simp; omega
  | cons c s ih =>
    intro p op data out h
    obtain ⟨h1, h2, h3⟩ := stepR_ends p op c h
    rw [feedR_cons]
    split
    · have := ih (stepR p op c).1.1 [] [] (flushR (data ++ (stepR p op c).2.1) out ++ [((stepR p op c).1.2, true)]) h1
      have k := flush_sz (data ++ (stepR p op c).2.1) out
      have e : sz (flushR (data ++ (stepR p op c).2.1) out ++ [((stepR p op c).1.2, true)]) = sz (flushR (data ++ (stepR p op c).2.1) out) + (stepR p op c).1.2.length + 1 := by
        unfold sz; rw [tot_snoc]; simp; omega
      rw [e] at this
      simp at this k ⊢
      omega
    · have := ih (stepR p op c).1.1 (stepR p op c).1.2 (data ++ (stepR p op c).2.1) out h1
      simp at this ⊢
      omega
theorem run_twice (s : Str) (op : Str) : run 0 op (twice s) = ((0, op), s.map Tok.d) := by
  induction s with
  | nil => rfl
  | cons c s ih =>
    have e : twice (c :: s) = (if c = 255 then [255, 255] else [c]) ++ twice s := by simp [twice]
    rw [e]
    by_cases h : c = 255
    · subst h
      rw [if_pos rfl]
      show run 0 op (255 :: 255 :: twice s) = _
      rw [run_cons, stepR_0s op 255 rfl]
      simp only [Bool.false_eq_true, if_false]
      rw [run_cons, stepR_1s op 255 rfl]
      simp [ih]
    · rw [if_neg h]
      show run 0 op (c :: twice s) = _
      rw [run_cons, stepR_0n op c h]
      simp [ih]
theorem run_twice2 (s : Str) : ∀ op, run 2 op (twice s) = ((2, op ++ s), []) := by
  induction s with
  | nil => intro op; simp [twice, run]
  | cons c s ih =>
    intro op
    have e : twice (c :: s) = (if c = 255 then [255, 255] else [c]) ++ twice s := by simp [twice]
    rw [e]
    by_cases h : c = 255
    · subst h
      rw [if_pos rfl]
      show run 2 op (255 :: 255 :: twice s) = _
      rw [run_cons, stepR_2s op 255 rfl]
      simp only [Bool.false_eq_true, if_false]
      rw [run_cons, stepR_3s op 255 (by decide) rfl]
      simp [ih]
    · rw [if_neg h]
      show run 2 op (c :: twice s) = _
      rw [run_cons, stepR_2n op c h]
      simp [ih]
theorem run_told (s : Str) : run 0 [] (toldB s) = ((0, []), [Tok.r s]) := by
  have e : toldB s = 255 :: 1 :: (twice s ++ [255, 2]) := by simp [toldB]
  rw [e, run_cons, stepR_0s [] 255 rfl]
  simp only [Bool.false_eq_true, if_false]
  rw [run_cons, stepR_1b [] 1 (by decide) rfl]
  simp only [Bool.false_eq_true, if_false]
  rw [run_append, run_twice2]
  simp only [List.nil_append]
  rw [run_cons, stepR_2s s 255 rfl]
  simp only [Bool.false_eq_true, if_false]
  rw [run_cons, stepR_3e s 2 rfl]
  simp [run]
theorem run_four (s : Str) : ∀ op, run 4 op s = ((4, op), []) := by
  induction s with
  | nil => intro op; rfl
  | cons c s ih => intro op; rw [run_cons, show stepR 4 op c = ((4, op), ([], false)) from by simp [stepR]]; simp [ih]
/-- A body ahead of what is left of the text. -/
theorem body_len (s : Str) : (bodyR s).2 ≤ s.length ∧ (bodyR s).1.length ≤ (bodyR s).2 := by
  fun_induction bodyR s with
  | case1 => simp
  | case2 r ih => simp; omega
  | case3 => simp
  | case4 => simp
  | case5 c s h ih => simp; omega
theorem body_run (s : Str) : ∀ op, run 0 op s = ((run 0 op (s.drop (bodyR s).2)).1, (bodyR s).1.map Tok.d ++ (run 0 op (s.drop (bodyR s).2)).2) := by
  fun_induction bodyR s with
  | case1 => intro op; rfl
  | case2 r ih =>
    intro op
    rw [run_cons, stepR_0s op 255 rfl]
    simp only [Bool.false_eq_true, if_false]
    rw [run_cons, stepR_1s op 255 rfl]
    simp only [Bool.false_eq_true, if_false]
    rw [ih]; simp
  | case3 => intro op; simp
  | case4 => intro op; simp
  | case5 c s h ih =>
    intro op
    rw [run_cons, stepR_0n op c h]
    simp only [Bool.false_eq_true, if_false]
    rw [ih]; simp
theorem body_run2 (s : Str) : ∀ op, run 2 op s = run 2 (op ++ (bodyR s).1) (s.drop (bodyR s).2) := by
  fun_induction bodyR s with
  | case1 => intro op; simp
  | case2 r ih =>
    intro op
    rw [run_cons, stepR_2s op 255 rfl]
    simp only [Bool.false_eq_true, if_false]
    rw [run_cons, stepR_3s op 255 (by decide) rfl]
    simp only [Bool.false_eq_true, if_false]
    rw [ih]; simp
  | case3 => intro op; simp
  | case4 => intro op; simp
  | case5 c s h ih =>
    intro op
    rw [run_cons, stepR_2n op c h]
    simp only [Bool.false_eq_true, if_false]
    rw [ih]; simp
theorem body_rest (s : Str) : s.drop (bodyR s).2 = [] ∨ s.drop (bodyR s).2 = [255] ∨ ∃ d r, s.drop (bodyR s).2 = 255 :: d :: r ∧ ¬ d = 255 := by
  fun_induction bodyR s with
  | case1 => simp
  | case2 r ih => simpa using ih
  | case3 d r h => exact .inr (.inr ⟨_, _, rfl, h⟩)
  | case4 => simp
  | case5 c s h ih => simpa using ih
theorem run_lone1 (op : Str) : run 0 op [255] = ((1, op), []) := by
  rw [run_cons, stepR_0s op 255 rfl]; simp [run]
theorem run_wrong1 (op : Str) (d : UInt8) (r : Str) (h : ¬ d = 255) (h1 : ¬ d = 1) : run 0 op (255 :: d :: r) = ((4, op), []) := by
  rw [run_cons, stepR_0s op 255 rfl]
  simp only [Bool.false_eq_true, if_false]
  rw [run_cons, stepR_1n op d h h1]
  simp [run_four]
theorem run_open (op : Str) (r : Str) : run 0 op (255 :: 1 :: r) = run 2 op r := by
  rw [run_cons, stepR_0s op 255 rfl]
  simp only [Bool.false_eq_true, if_false]
  rw [run_cons, stepR_1b op 1 (by decide) rfl]
  simp
theorem run_lone2 (op : Str) : run 2 op [255] = ((3, op), []) := by
  rw [run_cons, stepR_2s op 255 rfl]; simp [run]
theorem run_wrong2 (op : Str) (d : UInt8) (r : Str) (h : ¬ d = 255) (h1 : ¬ d = 2) : run 2 op (255 :: d :: r) = ((4, op), []) := by
  rw [run_cons, stepR_2s op 255 rfl]
  simp only [Bool.false_eq_true, if_false]
  rw [run_cons, show stepR 3 op d = ((4, op), ([], false)) from by simp [stepR, h, h1]]
  simp [run_four]
theorem run_close (op : Str) (r : Str) : run 2 op (255 :: 2 :: r) = ((run 0 [] r).1, Tok.r op :: (run 0 [] r).2) := by
  rw [run_cons, stepR_2s op 255 rfl]
  simp only [Bool.false_eq_true, if_false]
  rw [run_cons, stepR_3e op 2 rfl]
  simp
end Mux
end Go.Proofs.Ytagkhljcknnhmaa
