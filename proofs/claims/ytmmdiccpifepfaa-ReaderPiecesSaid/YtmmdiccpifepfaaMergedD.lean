/- The reference of package mux: bytes up to a lone sign. -/
import Derived.Test.YtmmdiccpifepfaaMergedB
import Derived.StillTailTactics
namespace Go.Proofs.Ytmmdiccpifepfaa
open Go.RowKit
set_option linter.unusedVariables false
set_option linter.unusedSimpArgs false
namespace Mux
/-- The bytes up to a lone sign, each double sign once; how many bytes that are. -/
def bodyR : Str → Str × Nat
  | [] => ([], 0)
  | c :: s => if c = 255 then (match s with | d :: r => if d = 255 then (255 :: (bodyR r).1, (bodyR r).2 + 2) else ([], 0) | [] => ([], 0)) else (c :: (bodyR s).1, (bodyR s).2 + 1)
theorem bodyR_plain {c : UInt8} (s : Str) (h : ¬ c = 255) : bodyR (c :: s) = (c :: (bodyR s).1, (bodyR s).2 + 1) := by cases s <;> simp [bodyR, h]
theorem bodyR_one : bodyR [255] = ([], 0) := by simp [bodyR]
theorem bodyR_two (s : Str) : bodyR (255 :: 255 :: s) = (255 :: (bodyR s).1, (bodyR s).2 + 2) := by simp [bodyR]
theorem bodyR_lone {d : UInt8} (s : Str) (h : ¬ d = 255) : bodyR (255 :: d :: s) = ([], 0) := by simp [bodyR, h]
theorem take1 {s : Str} {k : Nat} (h : k < s.length) : (s.drop k).take 1 = [s[k]] := by
  rw [List.drop_eq_getElem_cons h]; rfl
set_option maxHeartbeats 1000000 in
theorem body_any (s : Str) (w : World) (hs : s.length ≤ 1000000) : Calls Try.prog 32 #[.string ⟨s.toArray⟩] w fun e w' => e = .returned (.tuple #[.string ⟨(bodyR s).1.toArray⟩, .int .i64 (bodyR s).2]) ∧ w = w' := by
  go_enter Try.func32, Try.ntmps32
  go_wp2
  go_loop [4, 5] (fun o i => ∃ (k : Nat) (m : Str), i = .int .i64 k ∧ o = .string ⟨m.toArray⟩ ∧ k ≤ s.length ∧ m.length ≤ k ∧ Hid (bodyR s = (m ++ (bodyR (s.drop k)).1, k + (bodyR (s.drop k)).2))) (fun _ i => s.length - (intOf i).toNat)
  case atStart => exact ⟨0, [], rfl, rfl, by omega, by simp, (show bodyR s = _ by simp)⟩
  case round =>
    obtain ⟨k, m, rfl, rfl, hk, hm, hd⟩ := hrel
    by_cases hlt : k < s.length
    · have hix : (⟨s.toArray⟩ : ByteArray)[k]'(by simpa [ByteArray.size] using hlt) = s[k] := rfl
      have hb := hd.out
      rw [List.drop_eq_getElem_cons hlt] at hb
      by_cases hc : s[k] = 255
      · have hc1 : ((s[k].toNat : Int) == 255) = true := by rw [hc]; rfl
        by_cases hlt2 : k + 1 < s.length
        · have hix2 : (⟨s.toArray⟩ : ByteArray)[k + 1]'(by simpa [ByteArray.size] using hlt2) = s[k + 1] := rfl
          rw [List.drop_eq_getElem_cons hlt2] at hb
          by_cases hc2 : s[k + 1] = 255
          · have hn1 : ((s[k + 1].toNat : Int) != 255) = false := by rw [hc2]; rfl
            have hbb : bodyR s = (m ++ [s[k + 1]] ++ (bodyR (s.drop (k + 2))).1, k + 2 + (bodyR (s.drop (k + 2))).2) := by
              rw [hb]
              simp only [bodyR, hc, hc2, if_true]
              rw [List.append_assoc, show k + 2 = k + 1 + 1 from rfl]
              simp
              omega
            have Hb := Lib.hid hbb
            have hsl := fun W : World => slice_one (P := Try.prog) W 9 Try.underlying9 s (k + 1) (k + 1 + 1) (k + 1) hlt2 (by omega) (by omega)
            have hml : m.length ≤ 1000000 := by omega
            clear hd hb hbb hc hc2
            go_wp2
            go_round
            case rel => exact ⟨k + 2, m ++ [s[k + 1]], by go_num, by rfl, by omega, by simp; omega, Hb.out⟩
            case measure => simp [intOf]; omega
          · have hn1 : ((s[k + 1].toNat : Int) != 255) = true := (u8_f (d := 255) rfl hc2).2
            have hbb : bodyR s = (m, k) := by
              rw [hb]
              rw [hc, bodyR_lone _ hc2]
              simp
            have Hb := Lib.hid hbb
            clear hd hb hbb hc hc2
            go_wp2
            go_ret2
            rw [Hb.out]
            exact ⟨rfl, rfl⟩
        · have hbb : bodyR s = (m, k) := by
            rw [hb, List.drop_of_length_le (by omega)]
            rw [hc, bodyR_one]
            simp
          have Hb := Lib.hid hbb
          clear hd hb hbb hc
          go_wp2
          go_ret2
          rw [Hb.out]
          exact ⟨rfl, rfl⟩
      · have hc1 : ((s[k].toNat : Int) == 255) = false := (u8_f (d := 255) rfl hc).1
        have hbb : bodyR s = (m ++ [s[k]] ++ (bodyR (s.drop (k + 1))).1, k + 1 + (bodyR (s.drop (k + 1))).2) := by
          rw [hb]
          rw [bodyR_plain _ hc]
          refine Prod.ext ?_ ?_
          · simp
          · show k + ((bodyR (s.drop (k + 1))).2 + 1) = k + 1 + (bodyR (s.drop (k + 1))).2
            omega
        have Hb := Lib.hid hbb
        have hsl := fun W : World => slice_one (P := Try.prog) W 9 Try.underlying9 s k (k + 1) k hlt (by omega) (by omega)
        clear hd hb hbb hc
        go_wp2
        go_round
        case rel => exact ⟨k + 1, m ++ [s[k]], by go_num, by rfl, by omega, by simp; omega, Hb.out⟩
        case measure => simp [intOf]; omega
    · go_wp2
      go_ret2
      have h1 := hd.out
      rw [List.drop_of_length_le (by omega)] at h1
      refine ⟨?_, rfl⟩
      rw [h1]
      have : k = s.length := by omega
      simp [bodyR]
end Mux
end Go.Proofs.Ytmmdiccpifepfaa
/- The reference of package mux: parts. -/
namespace Go.Proofs.Ytmmdiccpifepfaa
open Go.RowKit
set_option linter.unusedVariables false
set_option linter.unusedSimpArgs false
namespace Mux
theorem infoR : (Try.prog.info? 62).map (fun i => (i.zero, i.size, i.bytes)) = some (some (.agg #[.string ByteArray.empty, .bool false]), 2, 24) := by kernel_rfl
abbrev RPart : Rd (Str × Bool) := RTwo 1 RStr RBool
theorem RPart.stable : Rd.Stable RPart := RTwo.stable RStr.stable RBool.stable
theorem encP_len (l : List (Str × Bool)) : (l.flatMap encP).length = l.length * 2 := by
  induction l with
  | nil => rfl
  | cons a l ih => rw [List.flatMap_cons, List.length_append, ih, List.length_cons]; simp [encP]; omega
theorem encP_get (l : List (Str × Bool)) (i : Nat) (h : i < l.length) : (l.flatMap encP)[i * 2]? = some (.string ⟨l[i].1.toArray⟩) ∧ (l.flatMap encP)[i * 2 + 1]? = some (.bool l[i].2) := by
  induction l generalizing i with
  | nil => simp at h
  | cons a l ih =>
    rw [List.flatMap_cons]
    cases i with
    | zero => simp [encP]
    | succ i =>
      have := ih i (by simpa using h)
      have e : (encP a).length = 2 := rfl
      rw [List.getElem?_append_right (by rw [e]; omega), List.getElem?_append_right (by rw [e]; omega), e, show (i + 1) * 2 - 2 = i * 2 by omega, show (i + 1) * 2 + 1 - 2 = i * 2 + 1 by omega]
      simpa using this
theorem own_parts {w : World} {base : Nat} {e : TypeId} {v : Value} {l : List (Str × Bool)} (h : w.ownsRow base e 2 v l.length (l.flatMap encP)) (hl : ∀ x ∈ l, x.1.length ≤ maxLen) : RSl 2 RPart w (Of v) [v] l := by
  rcases h.2 with ⟨rfl, h0⟩ | ⟨g, cap, cur, rfl, _, hg, h1, h2, h3, h4⟩
  · have : l = [] := List.eq_nil_of_length_eq_zero h0
    subst this
    exact ⟨none, 0, rfl, Nat.le_refl _, Nat.zero_le _, fun _ => rfl, fun i hi => by simp at hi⟩
  · refine ⟨some ⟨g, 0, none⟩, cap, rfl, h1, h2, fun h => (by cases h), fun i hi => ⟨⟨g, 0, none⟩, encP l[i], rfl, rfl, rfl, fun j hj => ?_, ?_⟩⟩
    · obtain ⟨g1, g2⟩ := encP_get l i hi
      obtain rfl | rfl : j = 0 ∨ j = 1 := by omega
      · exact h.cells (g := g) rfl _ _ g1
      · exact h.cells (g := g) rfl _ _ g2
    · exact ⟨by simp [encP], ⟨rfl, hl _ (List.getElem_mem hi)⟩, rfl⟩
theorem part_cells {w : World} {S : Nat → Prop} {v : Value} {l : List (Str × Bool)} (h : RSl 2 RPart w S [v] l) :
    ∃ A cap, v = .slice A l.length cap ∧ l.length ≤ cap ∧ cap ≤ maxLen ∧ ∀ i (hi : i < l.length), ∃ ad, A = some ad ∧ S ad.block ∧ w.cell? (ad.add (i * 2)) = some (.string ⟨l[i].1.toArray⟩) ∧ w.cell? ⟨(ad.add (i * 2)).block, (ad.add (i * 2)).off + 1, none⟩ = some (.bool l[i].2) ∧ l[i].1.length ≤ maxLen := by
  obtain ⟨A, cap, h1, h2, h3, h4⟩ := h.twos
  refine ⟨A, cap, h1, h2, h3, fun i hi => ?_⟩
  obtain ⟨ad, c, d, e1, e2, e3, e4, ⟨e5, e6⟩, e7⟩ := h4 i hi
  injection e5 with e5 _
  injection e7 with e7 _
  subst e5 e7
  exact ⟨ad, e1, e2, e3, e4, e6⟩
end Mux
end Go.Proofs.Ytmmdiccpifepfaa
/- The reference of package mux: are two lists of parts the same. -/
namespace Go.Proofs.Ytmmdiccpifepfaa
open Go.RowKit
set_option linter.unusedVariables false
set_option linter.unusedSimpArgs false
namespace Mux
theorem neq_part (W : World) (a b : Str) (p q : Bool) :
    (binOp .neq 62 (.agg #[.string ⟨a.toArray⟩, .bool p]) (.agg #[.string ⟨b.toArray⟩, .bool q])).run Try.prog W = .ok (.bool (!decide ((a, p) = (b, q)))) W := by
  have h1 : Try.prog.underlying 62 = some (.struct (Try.prog.fieldsOf 62)) := by kernel_rfl
  have h2 : Try.prog.stoodInHeld 62 = false := by kernel_rfl
  have hu := Try.underlying62
  rw [run_neq_struct, run_equalIn_struct W _ _ _ _ h1 h2]
  simp [Program.fieldsOf, hu, Op.eqFields, go_sem]
  by_cases e1 : a = b <;> by_cases e2 : p = q <;> simp [e1, e2]
end Mux
end Go.Proofs.Ytmmdiccpifepfaa
/- What the splitter of package mux tells, as tokens: plain, without the program. -/
namespace Go.Proofs.Ytmmdiccpifepfaa
open Go.RowKit
set_option linter.unusedVariables false
set_option linter.unusedSimpArgs false
namespace Mux
/-- One part more, joined to the last one where both are bytes. -/
def joinStep (out : List (Str × Bool)) (x : Str × Bool) : List (Str × Bool) :=
  if x.2 = true then out ++ [x]
  else match out.getLast? with
    | some (s, false) => out.dropLast ++ [(s ++ x.1, false)]
    | _ => if x.1 = [] then out else out ++ [x]
def joinR (l : List (Str × Bool)) : List (Str × Bool) := l.foldl joinStep []
def tot (l : List (Str × Bool)) : Nat := (l.map (·.1.length)).sum
theorem tot_snoc (l : List (Str × Bool)) (x : Str × Bool) : tot (l ++ [x]) = tot l + x.1.length := by simp [tot]
theorem tot_mem {l : List (Str × Bool)} {x : Str × Bool} (h : x ∈ l) : x.1.length ≤ tot l := by
  induction l with
  | nil => cases h
  | cons a l ih =>
    have e : tot (a :: l) = a.1.length + tot l := by simp [tot]
    rw [e]
    rcases List.mem_cons.1 h with rfl | h
    · omega
    · have := ih h; omega
theorem join_tot (out : List (Str × Bool)) (x : Str × Bool) : tot (joinStep out x) ≤ tot out + x.1.length ∧ (joinStep out x).length ≤ out.length + 1 := by
  unfold joinStep
  split
  · rw [tot_snoc]; simp
  · split
    · rename_i s hs
      obtain ⟨r, rfl⟩ : ∃ r, out = r ++ [(s, false)] := by
        rcases List.eq_nil_or_concat out with rfl | ⟨r, y, rfl⟩
        · cases hs
        · rw [List.concat_eq_append] at *; simp at hs; exact ⟨r, by rw [hs]⟩
      rw [List.dropLast_concat, tot_snoc, tot_snoc]
      simp; omega
    · split
      · exact ⟨by omega, by omega⟩
      · rw [tot_snoc]; simp
theorem joinR_step {l : List (Str × Bool)} {k : Nat} (h : k < l.length) : joinR (l.take (k + 1)) = joinStep (joinR (l.take k)) l[k] := by
  unfold joinR
  rw [List.take_succ_eq_append_getElem h, List.foldl_append]; rfl
theorem tot_step {l : List (Str × Bool)} {k : Nat} (h : k < l.length) : tot (l.take (k + 1)) = tot (l.take k) + l[k].1.length := by
  rw [List.take_succ_eq_append_getElem h, tot_snoc]
theorem joinR_tot (l : List (Str × Bool)) (k : Nat) (h : k ≤ l.length) : tot (joinR (l.take k)) ≤ tot (l.take k) ∧ (joinR (l.take k)).length ≤ k := by
  induction k with
  | zero => simp [joinR, tot]
  | succ k ih =>
    obtain ⟨i1, i2⟩ := ih (by omega)
    have := join_tot (joinR (l.take k)) l[k]
    rw [joinR_step (by omega), tot_step (by omega)]
    omega
theorem tot_take (l : List (Str × Bool)) (k : Nat) : tot (l.take k) ≤ tot l := by
  have e : tot l = tot (l.take k) + tot (l.drop k) := by
    conv => lhs; rw [← List.take_append_drop k l]
    unfold tot; rw [List.map_append, List.sum_append]
  omega
inductive Tok where
  | d (c : UInt8)
  | r (s : Str)
def toks (x : Str × Bool) : List Tok := if x.2 = true then [.r x.1] else x.1.map .d
def tk (l : List (Str × Bool)) : List Tok := l.flatMap toks
def jstep (out : List (Str × Bool)) : Tok → List (Str × Bool)
  | .d c => joinStep out ([c], false)
  | .r s => out ++ [(s, true)]
theorem tk_append (l m : List (Str × Bool)) : tk (l ++ m) = tk l ++ tk m := by simp [tk]
theorem join_nil (out : List (Str × Bool)) : joinStep out ([], false) = out := by
  unfold joinStep
  simp only [Bool.false_eq_true, if_false]
  split
  · rename_i s hs
    rcases List.eq_nil_or_concat out with rfl | ⟨r, y, rfl⟩
    · cases hs
    · rw [List.concat_eq_append] at *; simp at hs; simp [hs]
  · simp
theorem join_two (out : List (Str × Bool)) (c : UInt8) (s : Str) : joinStep (joinStep out ([c], false)) (s, false) = joinStep out (c :: s, false) := by
  rcases List.eq_nil_or_concat out with rfl | ⟨r, y, rfl⟩
  · simp [joinStep]
  · obtain ⟨y, b⟩ := y
    rw [List.concat_eq_append]
    cases b <;> simp [joinStep]
theorem join_d (s : Str) : ∀ out, joinStep out (s, false) = (s.map Tok.d).foldl jstep out := by
  induction s with
  | nil => exact fun out => join_nil out
  | cons c s ih => intro out; rw [← join_two, ih]; rfl
theorem join_tk (l : List (Str × Bool)) : ∀ out, l.foldl joinStep out = (tk l).foldl jstep out := by
  induction l with
  | nil => intro out; rfl
  | cons x l ih =>
    intro out
    have e : tk (x :: l) = toks x ++ tk l := rfl
    rw [e, List.foldl_append, List.foldl_cons, ih]
    congr 1
    obtain ⟨s, b⟩ := x
    cases b
    · exact join_d s out
    · simp [joinStep, toks, jstep]
theorem joinR_tk {l m : List (Str × Bool)} (h : tk l = tk m) : joinR l = joinR m := by
  unfold joinR; rw [join_tk, join_tk, h]
/-- What the machine tells of any bytes, and where it is then. -/
def run : Nat → Str → Str → (Nat × Str) × List Tok
  | p, op, [] => ((p, op), [])
  | p, op, c :: s =>
    if (stepR p op c).2.2 = true then ((run (stepR p op c).1.1 [] s).1, (stepR p op c).2.1.map Tok.d ++ Tok.r (stepR p op c).1.2 :: (run (stepR p op c).1.1 [] s).2)
    else ((run (stepR p op c).1.1 (stepR p op c).1.2 s).1, (stepR p op c).2.1.map Tok.d ++ (run (stepR p op c).1.1 (stepR p op c).1.2 s).2)
theorem run_cons (p : Nat) (op : Str) (c : UInt8) (s : Str) : run p op (c :: s) =
    if (stepR p op c).2.2 = true then ((run (stepR p op c).1.1 [] s).1, (stepR p op c).2.1.map Tok.d ++ Tok.r (stepR p op c).1.2 :: (run (stepR p op c).1.1 [] s).2)
    else ((run (stepR p op c).1.1 (stepR p op c).1.2 s).1, (stepR p op c).2.1.map Tok.d ++ (run (stepR p op c).1.1 (stepR p op c).1.2 s).2) := rfl
theorem run_append (s : Str) : ∀ p op t, run p op (s ++ t) = ((run (run p op s).1.1 (run p op s).1.2 t).1, (run p op s).2 ++ (run (run p op s).1.1 (run p op s).1.2 t).2) := by
  induction s with
  | nil => intro p op t; rfl
  | cons c s ih =>
    intro p op t
    rw [List.cons_append, run_cons, run_cons]
    split
    · rw [ih]; simp
    · rw [ih]; simp
theorem tk_flush (data : Str) (out : List (Str × Bool)) : tk (flushR data out) = tk out ++ data.map Tok.d := by
  unfold flushR
  split
  · rename_i h; subst h; simp
  · rw [tk_append]; simp [tk, toks]
theorem feedR_run (s : Str) : ∀ p op data out, (feedR p op data out s).1 = (run p op s).1 ∧ tk (flushR (feedR p op data out s).2.1 (feedR p op data out s).2.2) = tk out ++ data.map Tok.d ++ (run p op s).2 := by
  induction s with
  | nil => intro p op data out; exact ⟨rfl, by rw [show feedR p op data out [] = ((p, op), (data, out)) from rfl, tk_flush]; simp [run]⟩
  | cons c s ih =>
    intro p op data out
    rw [feedR_cons, run_cons]
    split
    · obtain ⟨i1, i2⟩ := ih (stepR p op c).1.1 [] [] (flushR (data ++ (stepR p op c).2.1) out ++ [((stepR p op c).1.2, true)])
      refine ⟨i1, i2.trans ?_⟩
      rw [tk_append, tk_flush]
      simp [tk, toks]
    · obtain ⟨i1, i2⟩ := ih (stepR p op c).1.1 (stepR p op c).1.2 (data ++ (stepR p op c).2.1) out
      refine ⟨i1, i2.trans ?_⟩
      simp
theorem run_le (s : Str) : ∀ p op, p ≤ 4 → (run p op s).1.1 ≤ 4 ∧ (run p op s).1.2.length ≤ op.length + s.length := by
  induction s with
  | nil => intro p op h; exact ⟨h, by simp [run]⟩
  | cons c s ih =>
    intro p op h
    obtain ⟨h1, h2, h3⟩ := stepR_ends p op c h
    rw [run_cons]
    split
    · obtain ⟨i1, i2⟩ := ih (stepR p op c).1.1 [] h1
      exact ⟨i1, by simp at i2 ⊢; omega⟩
    · obtain ⟨i1, i2⟩ := ih (stepR p op c).1.1 (stepR p op c).1.2 h1
      exact ⟨i1, by simp at i2 ⊢; omega⟩
def sz (l : List (Str × Bool)) : Nat := tot l + l.length
theorem flush_sz (data : Str) (out : List (Str × Bool)) : sz (flushR data out) ≤ sz out + 2 * data.length := by
  unfold flushR sz
  split
  · omega
  · rename_i h
    have : data.length ≠ 0 := fun e => h (List.length_eq_zero_iff.1 e)
    rw [tot_snoc]; simp; omega
theorem feed_sz (s : Str) : ∀ p op data out, p ≤ 4 → sz (flushR (feedR p op data out s).2.1 (feedR p op data out s).2.2) ≤ sz out + 2 * data.length + op.length + 4 * s.length := by
  induction s with
  | nil => intro p op data out _; have := flush_sz data out; show sz (flushR data out) ≤ _; simp; omega
  | cons c s ih =>
    intro p op data out h
    obtain ⟨h1, h2, h3⟩ := stepR_ends p op c h
    rw [feedR_cons]
    split
    · have := ih (stepR p op c).1.1 [] [] (flushR (data ++ (stepR p op c).2.1) out ++ [((stepR p op c).1.2, true)]) h1
      have k := flush_sz (data ++ (stepR p op c).2.1) out
      have e : sz (flushR (data ++ (stepR p op c).2.1) out ++ [((stepR p op c).1.2, true)]) = sz (flushR (data ++ (stepR p op c).2.1) out) + (stepR p op c).1.2.length + 1 := by
        unfold sz; rw [tot_snoc]; simp; omega
      rw [e] at this
      simp at this k ⊢
      omega
    · have := ih (stepR p op c).1.1 (stepR p op c).1.2 (data ++ (stepR p op c).2.1) out h1
      simp at this ⊢
      omega
theorem run_twice (s : Str) (op : Str) : run 0 op (twice s) = ((0, op), s.map Tok.d) := by
  induction s with
  | nil => rfl
  | cons c s ih =>
    have e : twice (c :: s) = (if c = 255 then [255, 255] else [c]) ++ twice s := by simp [twice]
    rw [e]
    by_cases h : c = 255
    · subst h
      rw [if_pos rfl]
      show run 0 op (255 :: 255 :: twice s) = _
      rw [run_cons, stepR_0s op 255 rfl]
      simp only [Bool.false_eq_true, if_false]
      rw [run_cons, stepR_1s op 255 rfl]
      simp [ih]
    · rw [if_neg h]
      show run 0 op (c :: twice s) = _
      rw [run_cons, stepR_0n op c h]
      simp [ih]
theorem run_twice2 (s : Str) : ∀ op, run 2 op (twice s) = ((2, op ++ s), []) := by
  induction s with
  | nil => intro op; simp [twice, run]
  | cons c s ih =>
    intro op
    have e : twice (c :: s) = (if c = 255 then [255, 255] else [c]) ++ twice s := by simp [twice]
    rw [e]
    by_cases h : c = 255
    · subst h
      rw [if_pos rfl]
      show run 2 op (255 :: 255 :: twice s) = _
      rw [run_cons, stepR_2s op 255 rfl]
      simp only [Bool.false_eq_true, if_false]
      rw [run_cons, stepR_3s op 255 (by decide) rfl]
      simp [ih]
    · rw [if_neg h]
      show run 2 op (c :: twice s) = _
      rw [run_cons, stepR_2n op c h]
      simp [ih]
theorem run_told (s : Str) : run 0 [] (toldB s) = ((0, []), [Tok.r s]) := by
  have e : toldB s = 255 :: 1 :: (twice s ++ [255, 2]) := by simp [toldB]
  rw [e, run_cons, stepR_0s [] 255 rfl]
  simp only [Bool.false_eq_true, if_false]
  rw [run_cons, stepR_1b [] 1 (by decide) rfl]
  simp only [Bool.false_eq_true, if_false]
  rw [run_append, run_twice2]
  simp only [List.nil_append]
  rw [run_cons, stepR_2s s 255 rfl]
  simp only [Bool.false_eq_true, if_false]
  rw [run_cons, stepR_3e s 2 rfl]
  simp [run]
theorem run_four (s : Str) : ∀ op, run 4 op s = ((4, op), []) := by
  induction s with
  | nil => intro op; rfl
  | cons c s ih => intro op; rw [run_cons, show stepR 4 op c = ((4, op), ([], false)) from by simp [stepR]]; simp [ih]
/-- A body ahead of what is left of the text. -/
theorem body_len (s : Str) : (bodyR s).2 ≤ s.length ∧ (bodyR s).1.length ≤ (bodyR s).2 := by
  fun_induction bodyR s with
  | case1 => simp
  | case2 r ih => simp; omega
  | case3 => simp
  | case4 => simp
  | case5 c s h ih => simp; omega
theorem body_run (s : Str) : ∀ op, run 0 op s = ((run 0 op (s.drop (bodyR s).2)).1, (bodyR s).1.map Tok.d ++ (run 0 op (s.drop (bodyR s).2)).2) := by
  fun_induction bodyR s with
  | case1 => intro op; rfl
  | case2 r ih =>
    intro op
    rw [run_cons, stepR_0s op 255 rfl]
    simp only [Bool.false_eq_true, if_false]
    rw [run_cons, stepR_1s op 255 rfl]
    simp only [Bool.false_eq_true, if_false]
    rw [ih]; simp
  | case3 => intro op; simp
  | case4 => intro op; simp
  | case5 c s h ih =>
    intro op
    rw [run_cons, stepR_0n op c h]
    simp only [Bool.false_eq_true, if_false]
    rw [ih]; simp
theorem body_run2 (s : Str) : ∀ op, run 2 op s = run 2 (op ++ (bodyR s).1) (s.drop (bodyR s).2) := by
  fun_induction bodyR s with
  | case1 => intro op; simp
  | case2 r ih =>
    intro op
    rw [run_cons, stepR_2s op 255 rfl]
    simp only [Bool.false_eq_true, if_false]
    rw [run_cons, stepR_3s op 255 (by decide) rfl]
    simp only [Bool.false_eq_true, if_false]
    rw [ih]; simp
  | case3 => intro op; simp
  | case4 => intro op; simp
  | case5 c s h ih =>
    intro op
    rw [run_cons, stepR_2n op c h]
    simp only [Bool.false_eq_true, if_false]
    rw [ih]; simp
theorem body_rest (s : Str) : s.drop (bodyR s).2 = [] ∨ s.drop (bodyR s).2 = [255] ∨ ∃ d r, s.drop (bodyR s).2 = 255 :: d :: r ∧ ¬ d = 255 := by
  fun_induction bodyR s with
  | case1 => simp
  | case2 r ih => simpa using ih
  | case3 d r h => exact .inr (.inr ⟨_, _, rfl, h⟩)
  | case4 => simp
  | case5 c s h ih => simpa using ih
theorem run_lone1 (op : Str) : run 0 op [255] = ((1, op), []) := by
  rw [run_cons, stepR_0s op 255 rfl]; simp [run]
theorem run_wrong1 (op : Str) (d : UInt8) (r : Str) (h : ¬ d = 255) (h1 : ¬ d = 1) : run 0 op (255 :: d :: r) = ((4, op), []) := by
  rw [run_cons, stepR_0s op 255 rfl]
  simp only [Bool.false_eq_true, if_false]
  rw [run_cons, stepR_1n op d h h1]
  simp [run_four]
theorem run_open (op : Str) (r : Str) : run 0 op (255 :: 1 :: r) = run 2 op r := by
  rw [run_cons, stepR_0s op 255 rfl]
  simp only [Bool.false_eq_true, if_false]
  rw [run_cons, stepR_1b op 1 (by decide) rfl]
  simp
theorem run_lone2 (op : Str) : run 2 op [255] = ((3, op), []) := by
  rw [run_cons, stepR_2s op 255 rfl]; simp [run]
theorem run_wrong2 (op : Str) (d : UInt8) (r : Str) (h : ¬ d = 255) (h1 : ¬ d = 2) : run 2 op (255 :: d :: r) = ((4, op), []) := by
  rw [run_cons, stepR_2s op 255 rfl]
  simp only [Bool.false_eq_true, if_false]
  rw [run_cons, show stepR 3 op d = ((4, op), ([], false)) from by simp [stepR, h, h1]]
  simp [run_four]
theorem run_close (op : Str) (r : Str) : run 2 op (255 :: 2 :: r) = ((run 0 [] r).1, Tok.r op :: (run 0 [] r).2) := by
  rw [run_cons, stepR_2s op 255 rfl]
  simp only [Bool.false_eq_true, if_false]
  rw [run_cons, stepR_3e op 2 rfl]
  simp
/-- No part of data is empty. -/
def Ne (l : List (Str × Bool)) : Prop := ∀ x ∈ l, x.2 = false → x.1 ≠ []
theorem Ne.nil : Ne [] := fun x hx => by cases hx
theorem Ne.snoc {l : List (Str × Bool)} (h : Ne l) {x : Str × Bool} (hx : x.2 = false → x.1 ≠ []) : Ne (l ++ [x]) := fun y hy => by
  rcases List.mem_append.1 hy with h1 | h1
  · exact h y h1
  · rw [List.mem_singleton.1 h1]; exact hx
theorem Ne.reply {l : List (Str × Bool)} (h : Ne l) (s : Str) : Ne (l ++ [(s, true)]) := h.snoc (fun e => by cases e)
theorem Ne.flush {l : List (Str × Bool)} (h : Ne l) (data : Str) : Ne (flushR data l) := by
  unfold flushR
  split
  · exact h
  · rename_i hd; exact h.snoc fun _ => hd
theorem feedR_ne (s : Str) : ∀ p op data out, Ne out → Ne (flushR (feedR p op data out s).2.1 (feedR p op data out s).2.2) := by
  induction s with
  | nil => intro p op data out h; exact h.flush data
  | cons c s ih =>
    intro p op data out h
    rw [feedR_cons]
    split
    · exact ih _ _ _ _ ((h.flush _).reply _)
    · exact ih _ _ _ _ h
end Mux
end Go.Proofs.Ytmmdiccpifepfaa
/- The reference of package mux: parts joined. -/
namespace Go.Proofs.Ytmmdiccpifepfaa
open Go.RowKit
set_option linter.unusedVariables false
set_option linter.unusedSimpArgs false
namespace Mux
theorem add_flat (g j : Nat) : (⟨g, 0, none⟩ : Addr).add j = ⟨g, j, none⟩ := by
  unfold Addr.add; split <;> simp_all
theorem encP_set (r : List (Str × Bool)) (s t : Str) : ((r ++ [(s, false)]).flatMap encP).set (r.length * 2) (.string ⟨t.toArray⟩) = (r ++ [(t, false)]).flatMap encP := by
  rw [List.flatMap_append, List.flatMap_append, List.set_append_right _ _ (by rw [encP_len]; exact Nat.le_refl _), encP_len]
  simp [encP]
theorem join_last (r : List (Str × Bool)) (s t : Str) : joinStep (r ++ [(s, false)]) (t, false) = r ++ [(s ++ t, false)] := by simp [joinStep]
theorem join_else {out : List (Str × Bool)} (h : ¬ ∃ r s, out = r ++ [(s, false)]) (t : Str) : joinStep out (t, false) = if t = [] then out else out ++ [(t, false)] := by
  rcases List.eq_nil_or_concat out with rfl | ⟨r, ⟨y, b⟩, rfl⟩
  · simp [joinStep]
  · rw [List.concat_eq_append] at *
    cases b
    · exact absurd ⟨r, y, rfl⟩ h
    · simp [joinStep]
end Mux
end Go.Proofs.Ytmmdiccpifepfaa
