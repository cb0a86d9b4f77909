/- Package verb: Word, and what is made of words. -/
import Derived.Test.YtiheeopbifkalaaVerbFind
namespace Go.Proofs.Ytiheeopbifkalaa
open Go.RowKit
set_option linter.unusedVariables false
set_option linter.unusedSimpArgs false
namespace Verb
abbrev C := Int × Str × Str
def encC (c : C) : Array Value := #[.int .i64 c.1, .string ⟨c.2.1.toArray⟩, .string ⟨c.2.2.toArray⟩]
set_option maxRecDepth 100000 in
theorem put1_any (w : World) (B : Nat) (v : Int) (x : V) (hB : w.cell? ⟨B, 0, none⟩ = some (.int .i64 v)) (hlt : B < w.heap.size) : Calls Try.prog 64 #[.agg #[.int .i64 x.1, .string ⟨x.2.1.toArray⟩, .int .i64 x.2.2.1, .string ⟨x.2.2.2.toArray⟩], .pointer (some ⟨B, 0, none⟩)] w fun e w' => e = .returned (.bool (x.1 == v)) ∧ Fr No w w' := by
  have hne : B ≠ w.heap.size := by omega
  go_enter Try.func64, Try.ntmps64
  go_wp2
  go_ret
  exact ⟨rfl, (Fr.refl _ _).alloc _⟩
set_option maxRecDepth 100000 in
theorem parse1_any (w : World) (B : Nat) (ad : Addr) (n c : Nat) (t : Str) (x : V) (hB : w.cell? ⟨B, 0, none⟩ = some (.slice (some ad) n c)) (hlt : B < w.heap.size) (hn : 0 < n) (ha : w.cell? ad = some (.string ⟨t.toArray⟩)) (hal : ad.block < w.heap.size) : Calls Try.prog 60 #[.agg #[.int .i64 x.1, .string ⟨x.2.1.toArray⟩, .int .i64 x.2.2.1, .string ⟨x.2.2.2.toArray⟩], .pointer (some ⟨B, 0, none⟩)] w fun e w' => e = .returned (.bool (x.2.1 == t)) ∧ Fr No w w' := by
  have hne : B ≠ w.heap.size := by omega
  have hna : ad.block ≠ w.heap.size := by omega
  go_enter Try.func60, Try.ntmps60
  go_wp2
  go_quiet (fail)
  go_wp2
  go_ret
  exact ⟨rfl, ((Fr.refl _ _).alloc _).drewN _⟩
def wordR (v : Int) : Str := (findR (fun x => x.1 == v)).1.2.1
set_option maxRecDepth 100000 in
theorem word_any (v : Int) (w : World) : Calls Try.prog 31 #[.int .i64 v] w fun e w' => e = .returned (.string ⟨(wordR v).toArray⟩) ∧ Fr No w w' := by
  have hc : ∀ W, Fr No (w.alloc (.cells #[.int .i64 v] 3)) W → ∀ x : V, Calls Try.prog 63 #[.agg #[.int .i64 x.1, .string ⟨x.2.1.toArray⟩, .int .i64 x.2.2.1, .string ⟨x.2.2.2.toArray⟩], .pointer (some ⟨w.heap.size, 0, none⟩)] W fun e w' => e = .returned (.bool (x.1 == v)) ∧ Fr No W w' := fun W hf x =>
    word1_any W w.heap.size v x (((Blk.new w 3 #[.int .i64 v]).fr hf (fun h => h)).cell 0) (Nat.lt_of_lt_of_le (by rw [size_alloc]; omega) hf.size)
  have HC := Lib.hid hc
  clear hc
  go_enter Try.func31, Try.ntmps31
  go_wp2_with fail
  refine (find_word _ _ (fun x => x.1 == v) HC.out).mono ?_
  rintro e w1 ⟨hr, hf⟩
  have HR := Lib.hid (show (findR (fun x : V => x.1 == v)).1.2.1 = wordR v from rfl)
  generalize findR (fun x : V => x.1 == v) = r at hr HR
  obtain ⟨⟨a, b, c, d⟩, f⟩ := r
  have hr : e = .returned (.tuple #[.agg #[.int .i64 a, .string ⟨b.toArray⟩, .int .i64 c, .string ⟨d.toArray⟩], .bool f]) := hr
  subst hr
  have Hf := Lib.hid hf
  clear hf
  go_wp2
  go_ret
  rw [← HR.out]
  exact ⟨rfl, (((Fr.refl No w).alloc _).then_no Hf.out).alloc _⟩
theorem getD_eq {l : List Str} {i : Nat} (h : i < l.length) : l.getD i [] = l[i] := by simp [List.getD, h]
theorem rsl_tail {w : World} {S : Nat → Prop} {ad : Addr} {c : Nat} {l : List Str} (h : RSl 1 RStr w S [.slice (some ad) l.length c] l) (hl : 1 ≤ l.length) : RSl 1 RStr w S [.slice (some (ad.add 1)) (l.length - 1) (c - 1)] (l.drop 1) := by
  obtain ⟨A', cap, h1, h2, h3, h4, h5⟩ := h
  injection h1 with h1 _
  injection h1 with h1 h6 h7
  subst h1 h7
  refine ⟨some (ad.add 1), c - 1, by rw [List.length_drop], by rw [List.length_drop]; omega, by omega, fun h => (by cases h), fun i hi => ?_⟩
  rw [List.length_drop] at hi
  obtain ⟨ad', ecs, g1, g2, g3, g4, g5⟩ := h5 (i + 1) (by omega)
  injection g1 with g1
  subst g1
  refine ⟨ad.add 1, ecs, rfl, by rw [block_add]; exact g2, g3, fun j hj => ?_, ?_⟩
  · rw [add_add, show 1 + (i * 1 + j) = (i + 1) * 1 + j by omega]; exact g4 j hj
  · have e : (l.drop 1)[i]'(by rw [List.length_drop]; exact hi) = l[i + 1] := by rw [List.getElem_drop]; congr 1; omega
    rw [e]; exact g5
def zeroC : C := (0, [], [])
def madeR (x : V) (l : List Str) : C × Bool :=
  if x.2.2.1 = 0 then ((x.1, [], []), (l.length : Int) == 0) else
  if x.2.2.1 = 1 then (if l.length = 1 then ((x.1, l.getD 0 [], []), true) else (zeroC, false)) else
  if x.2.2.1 = 2 then (if l.length = 2 then ((x.1, l.getD 0 [], l.getD 1 []), true) else (zeroC, false)) else
  if x.2.2.1 = 3 then (if 2 ≤ l.length then ((x.1, l.getD 0 [], Word.joinR (l.drop 1)), true) else (zeroC, false)) else (zeroC, false)
theorem made_1 (xv : Int) (xw xh : Str) (l : List Str) : madeR (xv, xw, 1, xh) l = if l.length = 1 then ((xv, l.getD 0 [], []), true) else (zeroC, false) := rfl
theorem made_2 (xv : Int) (xw xh : Str) (l : List Str) : madeR (xv, xw, 2, xh) l = if l.length = 2 then ((xv, l.getD 0 [], l.getD 1 []), true) else (zeroC, false) := rfl
theorem made_3 (xv : Int) (xw xh : Str) (l : List Str) : madeR (xv, xw, 3, xh) l = if 2 ≤ l.length then ((xv, l.getD 0 [], Word.joinR (l.drop 1)), true) else (zeroC, false) := rfl
def MadeIs (r : C × Bool) (e : Ending) : Prop := e = .returned (.tuple #[.agg #[.int .i64 r.1.1, .string ⟨r.1.2.1.toArray⟩, .string ⟨r.1.2.2.toArray⟩], .bool r.2])
set_option maxRecDepth 100000 in
set_option maxHeartbeats 2000000 in
theorem made_any (x : V) (v : Value) (l : List Str) (w : World) (S : Nat → Prop) (hS : ∀ k, S k → k < w.heap.size) (hv : RSl 1 RStr w S [v] l) (hl : Word.tot l ≤ 1000000) : Calls Try.prog 61 #[.agg #[.int .i64 x.1, .string ⟨x.2.1.toArray⟩, .int .i64 x.2.2.1, .string ⟨x.2.2.2.toArray⟩], v] w fun e w' => MadeIs (madeR x l) e ∧ Fr No w w' := by
  obtain ⟨xv, xw, xt, xh⟩ := x
  have Hv := Lib.hid hv
  obtain ⟨A, cap, rfl, hc1, hc2, hel⟩ := hv.strs
  unfold maxLen at hc2
  have Hel := Lib.hid hel
  have HS := Lib.hid hS
  clear hel hv hS
  by_cases h0 : xt = 0
  · subst h0
    have HR := Lib.hid (show madeR (xv, xw, 0, xh) l = ((xv, [], []), (l.length : Int) == 0) from rfl)
    go_enter Try.func61, Try.ntmps61
    go_wp2
    refine bodyPost_ret (v := .tuple #[.agg #[.int .i64 xv, .string ⟨#[]⟩, .string ⟨#[]⟩], .bool ((l.length : Int) == 0)]) ?_ rfl ⟨by rw [HR.out]; rfl, ?_⟩
    · simp [results, Try.f61, go_sem]
    · repeat (first | exact Fr.refl _ _ | refine Fr.alloc ?_ _ | refine Fr.setCell ?_ (.inr (by simp)) _ | refine Fr.drew ?_)
  by_cases h1 : xt = 1
  · subst h1
    clear h0
    by_cases hl1 : l.length = 1
    · obtain ⟨ad, rfl, hSa, q1, q2⟩ := Hel.out 0 (by omega)
      rw [add_zero] at q1
      have hal := HS.out _ hSa
      have e1 : ((l.length : Int) == 1) = true := by rw [hl1]; rfl
      have hg := getD_eq (l := l) (i := 0) (by omega)
      obtain ⟨t, ht⟩ : ∃ t, t = l[0] := ⟨_, rfl⟩
      rw [← ht] at q1 hg
      have HR := Lib.hid (show madeR (xv, xw, 1, xh) l = ((xv, t, []), true) by rw [made_1, if_pos hl1, hg])
      have q3 : ∀ o1 o2 o3, (((w.alloc o1).alloc o2).alloc o3).cell? ad = some (.string ⟨t.toArray⟩) := fun o1 o2 o3 => (((((Fr.refl No w).alloc o1).alloc o2).alloc o3).cell (p := ad) hal (fun h => h)).trans q1
      clear ht hg
      go_enter Try.func61, Try.ntmps61
      go_wp2
      refine bodyPost_ret (v := .tuple #[.agg #[.int .i64 xv, .string ⟨t.toArray⟩, .string ⟨#[]⟩], .bool true]) ?_ rfl ⟨by rw [HR.out]; rfl, ?_⟩
      · simp [results, Try.f61, go_sem]
      · repeat (first | exact Fr.refl _ _ | refine Fr.alloc ?_ _ | refine Fr.setCell ?_ (.inr (by simp)) _ | refine Fr.drew ?_)
    · have e1 : ((l.length : Int) == 1) = false := beq_eq_false_iff_ne.2 (by omega)
      have HR := Lib.hid (show madeR (xv, xw, 1, xh) l = (zeroC, false) by rw [made_1, if_neg hl1])
      clear hl1
      go_enter Try.func61, Try.ntmps61
      go_wp2
      refine bodyPost_ret (v := .tuple #[.agg #[.int .i64 0, .string ⟨#[]⟩, .string ⟨#[]⟩], .bool false]) ?_ rfl ⟨by rw [HR.out]; rfl, ?_⟩
      · simp [results, Try.f61, go_sem]
      · repeat (first | exact Fr.refl _ _ | refine Fr.alloc ?_ _ | refine Fr.setCell ?_ (.inr (by simp)) _ | refine Fr.drew ?_)
  by_cases h2 : xt = 2
  · subst h2
    clear h0 h1
    by_cases hl1 : l.length = 2
    · obtain ⟨ad, rfl, hSa, q1, _⟩ := Hel.out 0 (by omega)
      obtain ⟨ad', had, _, q2, _⟩ := Hel.out 1 (by omega)
      injection had with had
      subst had
      rw [add_zero] at q1
      have hal := HS.out _ hSa
      have e1 : ((l.length : Int) == 2) = true := by rw [hl1]; rfl
      have hg := getD_eq (l := l) (i := 0) (by omega)
      have hg2 := getD_eq (l := l) (i := 1) (by omega)
      obtain ⟨t, ht⟩ : ∃ t, t = l[0] := ⟨_, rfl⟩
      obtain ⟨t2, ht2⟩ : ∃ t, t = l[1] := ⟨_, rfl⟩
      rw [← ht] at q1 hg
      rw [← ht2] at q2 hg2
      rw [show ad.add 1 = ⟨ad.block, ad.off + 1, none⟩ from rfl] at q2
      have HR := Lib.hid (show madeR (xv, xw, 2, xh) l = ((xv, t, t2), true) by rw [made_2, if_pos hl1, hg, hg2])
      have q3 : ∀ o1 o2 o3, (((w.alloc o1).alloc o2).alloc o3).cell? ad = some (.string ⟨t.toArray⟩) := fun o1 o2 o3 => (((((Fr.refl No w).alloc o1).alloc o2).alloc o3).cell (p := ad) hal (fun h => h)).trans q1
      have q4 : ∀ o1 o2 o3, (((w.alloc o1).alloc o2).alloc o3).cell? ⟨ad.block, ad.off + 1, none⟩ = some (.string ⟨t2.toArray⟩) := fun o1 o2 o3 => (((((Fr.refl No w).alloc o1).alloc o2).alloc o3).cell (p := ⟨ad.block, ad.off + 1, none⟩) hal (fun h => h)).trans q2
      clear ht hg ht2 hg2
      go_enter Try.func61, Try.ntmps61
      go_wp2
      go_region
      all_goals
        go_wp2
        refine bodyPost_ret (v := .tuple #[.agg #[.int .i64 xv, .string ⟨t.toArray⟩, .string ⟨t2.toArray⟩], .bool true]) ?_ rfl ⟨by rw [HR.out]; rfl, ?_⟩
        · simp [results, Try.f61, go_sem]
        · repeat (first | exact Fr.refl _ _ | refine Fr.alloc ?_ _ | refine Fr.setCell ?_ (.inr (by simp)) _ | refine Fr.drew ?_)
    · have e1 : ((l.length : Int) == 2) = false := beq_eq_false_iff_ne.2 (by omega)
      have HR := Lib.hid (show madeR (xv, xw, 2, xh) l = (zeroC, false) by rw [made_2, if_neg hl1])
      clear hl1
      go_enter Try.func61, Try.ntmps61
      go_wp2
      refine bodyPost_ret (v := .tuple #[.agg #[.int .i64 0, .string ⟨#[]⟩, .string ⟨#[]⟩], .bool false]) ?_ rfl ⟨by rw [HR.out]; rfl, ?_⟩
      · simp [results, Try.f61, go_sem]
      · repeat (first | exact Fr.refl _ _ | refine Fr.alloc ?_ _ | refine Fr.setCell ?_ (.inr (by simp)) _ | refine Fr.drew ?_)
  by_cases h3 : xt = 3
  · subst h3
    clear h0 h1 h2
    by_cases hl1 : 2 ≤ l.length
    · obtain ⟨ad, rfl, hSa, q1, _⟩ := Hel.out 0 (by omega)
      rw [add_zero] at q1
      have hal := HS.out _ hSa
      have hg := getD_eq (l := l) (i := 0) (by omega)
      obtain ⟨t, ht⟩ : ∃ t, t = l[0] := ⟨_, rfl⟩
      rw [← ht] at q1 hg
      obtain ⟨t2, ht2⟩ : ∃ t, t = Word.joinR (l.drop 1) := ⟨_, rfl⟩
      have HT2 := Lib.hid ht2
      have HR := Lib.hid (show madeR (xv, xw, 3, xh) l = ((xv, t, t2), true) by rw [made_3, if_pos hl1, hg, ht2])
      have q3 : ∀ o1 o2 o3, (((w.alloc o1).alloc o2).alloc o3).cell? ad = some (.string ⟨t.toArray⟩) := fun o1 o2 o3 => (((((Fr.refl No w).alloc o1).alloc o2).alloc o3).cell (p := ad) hal (fun h => h)).trans q1
      clear ht hg ht2
      have hlc : (1 : Int) ≤ (l.length : Int) := by omega
      have hcap : ¬ cap = 1 := by omega
      have hj : ∀ W', Fr No w W' → Calls Try.prog 76 #[.slice (some ⟨ad.block, ad.off + 1, none⟩) (l.length - 1) (cap - 1)] W' fun e w' => e = .returned (.string ⟨t2.toArray⟩) ∧ Fr No W' w' := fun W' hf => by
        rw [HT2.out]
        exact Word.join_any _ (l.drop 1) W' S (fun k hk => Nat.lt_of_lt_of_le (HS.out k hk) hf.size) (strs_go (rsl_tail Hv.out (by omega)) (Kept.of_no hf HS.out) fun k hk => hk) (by
          have : Word.tot (l.drop 1) ≤ Word.tot l := by
            cases l with
            | nil => exact Nat.le_refl _
            | cons a l => simp [Word.tot]; omega
          omega)
      have HJ := Lib.hid hj
      clear hj
      go_enter Try.func61, Try.ntmps61
      go_wp2
      have B1 := Lib.hid (show Blk (((w.alloc (.cells #[.int .i64 xv, .string ⟨xw.toArray⟩, .int .i64 3, .string ⟨xh.toArray⟩] 99)).alloc (.cells #[.int .i64 0, .string ⟨#[]⟩, .string ⟨#[]⟩] 61)).alloc (.cells #[.int .i64 xv, .string ⟨#[]⟩, .string ⟨#[]⟩] 61)) (w.heap.size + 1) 61 #[.int .i64 0, .string ⟨#[]⟩, .string ⟨#[]⟩] by
        have := (Blk.new (w.alloc (.cells #[.int .i64 xv, .string ⟨xw.toArray⟩, .int .i64 3, .string ⟨xh.toArray⟩] 99)) 61 #[.int .i64 0, .string ⟨#[]⟩, .string ⟨#[]⟩]).alloc (.cells #[.int .i64 xv, .string ⟨#[]⟩, .string ⟨#[]⟩] 61)
        rwa [size_alloc] at this)
      have B2 := Lib.hid (show Blk (((w.alloc (.cells #[.int .i64 xv, .string ⟨xw.toArray⟩, .int .i64 3, .string ⟨xh.toArray⟩] 99)).alloc (.cells #[.int .i64 0, .string ⟨#[]⟩, .string ⟨#[]⟩] 61)).alloc (.cells #[.int .i64 xv, .string ⟨#[]⟩, .string ⟨#[]⟩] 61)) (w.heap.size + 1 + 1) 61 #[.int .i64 xv, .string ⟨#[]⟩, .string ⟨#[]⟩] by
        have := Blk.new ((w.alloc (.cells #[.int .i64 xv, .string ⟨xw.toArray⟩, .int .i64 3, .string ⟨xh.toArray⟩] 99)).alloc (.cells #[.int .i64 0, .string ⟨#[]⟩, .string ⟨#[]⟩] 61)) 61 #[.int .i64 xv, .string ⟨#[]⟩, .string ⟨#[]⟩]
        rwa [size_alloc, size_alloc] at this)
      have F3 := Lib.hid ((((Fr.refl No w).alloc (.cells #[.int .i64 xv, .string ⟨xw.toArray⟩, .int .i64 3, .string ⟨xh.toArray⟩] 99)).alloc (.cells #[.int .i64 0, .string ⟨#[]⟩, .string ⟨#[]⟩] 61)).alloc (.cells #[.int .i64 xv, .string ⟨#[]⟩, .string ⟨#[]⟩] 61))
      generalize ((w.alloc (.cells #[.int .i64 xv, .string ⟨xw.toArray⟩, .int .i64 3, .string ⟨xh.toArray⟩] 99)).alloc (.cells #[.int .i64 0, .string ⟨#[]⟩, .string ⟨#[]⟩] 61)).alloc (.cells #[.int .i64 xv, .string ⟨#[]⟩, .string ⟨#[]⟩] 61) = W3 at B1 B2 F3 ⊢
      have q5 : W3.cell? ad = some (.string ⟨t.toArray⟩) := (F3.out.cell hal (fun h => h)).trans q1
      clear q1 q3
      go_region_with (go_at_call 76; (with_reducible refine (HJ.out _ F3.out.drew).mono ?_; rintro e w1 ⟨rfl, hf⟩; have hf : Fr No W3 w1 := ((Fr.refl No W3).drew).then_no hf; have b1 := B1.out.fr hf (fun h => h); have b2 := B2.out.fr hf (fun h => h); have q6 : w1.cell? ad = some (.string ⟨t.toArray⟩) := (hf.cell (Nat.lt_of_lt_of_le hal F3.out.size) (fun h => h)).trans q5; have c1 := b2.cell 1; have c2 := b2.cell 2; have c0 := b2.cell 0; have f1 := b2.frozen 1; have f2 := b2.frozen 2; simp at c0 c1 c2; have HB1 := Lib.hid b1; have HB2 := Lib.hid b2; have F4 := Lib.hid (F3.out.then_no hf); clear hf b1 b2))
      all_goals
        have b3 := (HB2.out.put 1 (.string ⟨t.toArray⟩)).put 2 (.string ⟨t2.toArray⟩)
        have r3 := (HB1.out.far (p := ⟨w.heap.size + 1 + 1, 1, none⟩) (by simp) (.string ⟨t.toArray⟩)).far (p := ⟨w.heap.size + 1 + 1, 2, none⟩) (by simp) (.string ⟨t2.toArray⟩)
        have F5 := Lib.hid ((F4.out.setCell (p := ⟨w.heap.size + 1 + 1, 1, none⟩) (.inr (by simp; omega)) (.string ⟨t.toArray⟩)).setCell (p := ⟨w.heap.size + 1 + 1, 2, none⟩) (.inr (by simp; omega)) (.string ⟨t2.toArray⟩))
        simp at b3
        clear c0 c1 c2 f1 f2 q6 HB1 HB2 F4
        generalize (w1.setCell ⟨w.heap.size + 1 + 1, 1, none⟩ (.string ⟨t.toArray⟩)).setCell ⟨w.heap.size + 1 + 1, 2, none⟩ (.string ⟨t2.toArray⟩) = W5 at b3 r3 F5 ⊢
        have c0 := b3.cell 0
        have c1 := b3.cell 1
        have c2 := b3.cell 2
        have d0 := r3.cell 0
        have d1 := r3.cell 1
        have d2 := r3.cell 2
        have f0 := r3.frozen 0
        have f1 := r3.frozen 1
        have f2 := r3.frozen 2
        simp at c0 c1 c2 d0 d1 d2
        have HB := Lib.hid r3
        clear b3 r3
        go_wp2
        have b4 := ((HB.out.put 0 (.int .i64 xv)).put 1 (.string ⟨t.toArray⟩)).put 2 (.string ⟨t2.toArray⟩)
        simp at b4
        have e0 := b4.cell 0
        have e1 := b4.cell 1
        have e2 := b4.cell 2
        simp only [List.getElem?_toArray, List.getElem?_cons_zero, List.getElem?_cons_succ] at e0 e1 e2
        refine bodyPost_ret (v := .tuple #[.agg #[.int .i64 xv, .string ⟨t.toArray⟩, .string ⟨t2.toArray⟩], .bool true]) ?_ rfl ⟨by rw [HR.out]; rfl, ?_⟩
        · clear c0 c1 c2 d0 d1 d2 f0 f1 f2 b4 q5
          simp [results, Try.f61, go_sem, e0, e1, e2]
        · exact ((F5.out.setCell (p := ⟨w.heap.size + 1, 0, none⟩) (.inr (by simp)) _).setCell (p := ⟨w.heap.size + 1, 1, none⟩) (.inr (by simp)) _).setCell (p := ⟨w.heap.size + 1, 2, none⟩) (.inr (by simp)) _
    · have HR := Lib.hid (show madeR (xv, xw, 3, xh) l = (zeroC, false) by rw [made_3, if_neg hl1])
      go_enter Try.func61, Try.ntmps61
      go_wp2
      refine bodyPost_ret (v := .tuple #[.agg #[.int .i64 0, .string ⟨#[]⟩, .string ⟨#[]⟩], .bool false]) ?_ rfl ⟨by rw [HR.out]; rfl, ?_⟩
      · simp [results, Try.f61, go_sem]
      · repeat (first | exact Fr.refl _ _ | refine Fr.alloc ?_ _ | refine Fr.setCell ?_ (.inr (by simp)) _ | refine Fr.drew ?_)
  · have HR := Lib.hid (show madeR (xv, xw, xt, xh) l = (zeroC, false) by simp only [madeR]; rw [if_neg h0, if_neg h1, if_neg h2, if_neg h3])
    have e0 : (xt == 0) = false := beq_eq_false_iff_ne.2 h0
    have e1 : (xt == 1) = false := beq_eq_false_iff_ne.2 h1
    have e2 : (xt == 2) = false := beq_eq_false_iff_ne.2 h2
    have e3 : (xt == 3) = false := beq_eq_false_iff_ne.2 h3
    clear h0 h1 h2 h3
    go_enter Try.func61, Try.ntmps61
    go_wp2
    refine bodyPost_ret (v := .tuple #[.agg #[.int .i64 0, .string ⟨#[]⟩, .string ⟨#[]⟩], .bool false]) ?_ rfl ⟨by rw [HR.out]; rfl, ?_⟩
    · simp [results, Try.f61, go_sem]
    · repeat (first | exact Fr.refl _ _ | refine Fr.alloc ?_ _ | refine Fr.setCell ?_ (.inr (by simp)) _ | refine Fr.drew ?_)
end Verb
end Go.Proofs.Ytiheeopbifkalaa
