/- Rights: the walk of First. Printed by gen_rtfirst.py. -/
import Derived.Test.YtompphakagoaeaaRtHead
import Derived.Test.YtompphakagoaeaaRtLW
import Derived.Test.YtompphakagoaeaaGrow2
import Derived.BigQuiet
import Derived.Deep.CutRange
import Derived.Deep.RegionHeld3
import Derived.Outline
namespace Go.Proofs.Ytompphakagoaeaa
open Go.RowKit
set_option linter.unusedVariables false
set_option linter.unusedSimpArgs false
namespace Conf
open Word
theorem enc_acc {w : World} {S : Nat → Prop} {cs : List Value} {x : Acc} (h : QAcc w S cs x) : cs = [.string ⟨x.1.toArray⟩, .string ⟨x.2.1.toArray⟩, .int .i64 x.2.2] := by
  obtain ⟨hl, ⟨h1, b1⟩, l2, ⟨h2, b2⟩, h3, b3⟩ := h
  rw [← List.take_append_drop 1 cs, h1, ← List.take_append_drop 1 (cs.drop 1), h2, h3]; rfl
def encA (x : Acc) : List Value := [.string ⟨x.1.toArray⟩, .string ⟨x.2.1.toArray⟩, .int .i64 x.2.2]
theorem encA_one (l : List Acc) : ∀ u ∈ l.flatMap encA, u.oneCell' = true := by
  intro u hu
  obtain ⟨x, -, h⟩ := List.mem_flatMap.1 hu
  simp only [encA, List.mem_cons, List.not_mem_nil, or_false] at h
  rcases h with rfl | rfl | rfl <;> rfl
theorem encA_len (l : List Acc) : (l.flatMap encA).length = l.length * 3 := by
  induction l with
  | nil => rfl
  | cons x l ih => rw [List.flatMap_cons, List.length_append, ih, List.length_cons]; simp [encA]; omega
/-- An access of short texts. -/
def AccOk (x : Acc) : Prop := x.1.length ≤ 40 ∧ x.2.1.length ≤ 40 ∧ (Lit.int .i64 x.2.2).wf = true
theorem encA_rd {x : Acc} (h : AccOk x) (w : World) (S : Nat → Prop) : QAcc w S (encA x) x := ⟨by simp [encA], ⟨rfl, h.1⟩, by simp [encA], ⟨rfl, h.2.1⟩, rfl, h.2.2⟩
theorem sl_accs {w : World} {S : Nat → Prop} {v : Value} {l : List Acc} (h : RSl 3 QAcc w S [v] l) : ∀ x ∈ l, AccOk x := by
  intro x hx
  obtain ⟨j, hj, rfl⟩ := List.getElem_of_mem hx
  obtain ⟨_, _, _, _, _, _, h5⟩ := h
  obtain ⟨_, _, _, _, _, _, h6⟩ := h5 j hj
  obtain ⟨hl, ⟨h1, b1⟩, l2, ⟨h2, b2⟩, h3, b3⟩ := h6
  exact ⟨b1, b2, b3⟩
theorem conf_w {w : World} {S S2 : Nat → Prop} {vC vG vU vA v : Value} {bs : List Value} {x : C} {l : List Acc} (h : QConf w S (vC :: vG :: vU :: vA :: bs) x) (hv : RSl 3 QAcc w S2 [v] l) (h13 : l.length ≤ 13) (hS : ∀ b, S b → S2 b) :
    QConfW w S2 (vC :: vG :: vU :: v :: bs) (x.1, x.2.1, x.2.2.1, l, x.2.2.2.2) := by
  obtain ⟨l1, h1, l2, h2, l3, h3, l4, h4, h5⟩ := stable_q.go h (Kept.refl _ _) hS
  exact ⟨by simp, h1, by simp, h2, by simp, h3, by simp, ⟨hv, h13⟩, h5⟩
/-- The first that fits: one more ahead. -/
theorem level_ahead (x : Acc) (l : List Acc) (u c : Str) : levelR (x :: l) u c = if accP u c x = true then x.2.2 else levelR l u c := by
  unfold levelR
  by_cases h : accP u c x = true
  · rw [if_pos h, List.find?_cons_of_pos h]
  · rw [if_neg h, List.find?_cons_of_neg h]
theorem level_behind (x : Acc) (l : List Acc) (u c : Str) : (levelR (l ++ [x]) u c = levelR l u c ∧ (accP u c x = true → levelR l u c = 0 → True)) ∨ (levelR l u c = 0 ∧ levelR (l ++ [x]) u c = if accP u c x = true then x.2.2 else 0) := by
  unfold levelR
  rw [List.find?_append]
  cases h : l.find? (accP u c) with
  | some a => exact .inl ⟨rfl, fun _ _ => trivial⟩
  | none =>
    refine .inr ⟨rfl, ?_⟩
    by_cases hx : accP u c x = true
    · rw [if_pos hx, List.find?_cons_of_pos hx]; rfl
    · rw [if_neg hx, List.find?_cons_of_neg hx]; rfl
set_option maxRecDepth 100000 in
set_option maxHeartbeats 4000000 in
theorem walk_RightsFirst (W : World) (c0 : Array Value) (x0 : ((List (Str × (Int × (Int × (Int × (Int × (Int × (Int × (Int × (Int × Str)))))))))) × ((List (Str × (List Str))) × ((List (Str × Str)) × ((List (Str × (Str × Int))) × (List Str)))))) (h0 : (RTwo 1 (RSl 10 (RTwo 1 RStr (RTwo 1 (RInt .i64) (RTwo 1 (RInt .i64) (RTwo 1 (RInt .i64) (RTwo 1 (RInt .i64) (RTwo 1 (RInt .i64) (RTwo 1 (RInt .i64) (RTwo 1 (RInt .i64) (RTwo 1 (RInt .i64) RStr)))))))))) (RTwo 1 (RSl 2 (RTwo 1 RStr (RSl 1 RStr))) (RTwo 1 (RSl 2 (RTwo 1 RStr RStr)) (RTwo 1 (RSl 3 (RTwo 1 RStr (RTwo 1 RStr (RInt .i64)))) (RArr 10 1 RStr))))) W (Ahead W.heap.size) c0.toList x0) (c1 : Array Value) (x1 : (Str × (Str × Int))) (h1 : (RTwo 1 RStr (RTwo 1 RStr (RInt .i64))) W (Ahead W.heap.size) c1.toList x1) (v2 : Value) (x2 : Str) (h2 : RStr W (Ahead W.heap.size) [v2] x2) (v3 : Value) (x3 : Str) (h3 : RStr W (Ahead W.heap.size) [v3] x3) : Calls Try.prog 4 #[.agg c0, .agg c1, v2, v3] W fun e w' => e = .returned (.bool true) ∧ Fr No W w' := by
  obtain ⟨h2a, -⟩ := h2
  injection h2a with h2a _
  subst h2a
  obtain ⟨h3a, -⟩ := h3
  injection h3a with h3a _
  subst h3a
  obtain ⟨xa, xb, n, hxa, hxb, hxn, hc1⟩ := acc_open h1
  have hc1' : c1 = #[.string ⟨xa.toArray⟩, .string ⟨xb.toArray⟩, .int .i64 n] := by
    have := congrArg List.toArray hc1
    simpa using this
  subst hc1'
  have HXN := Lib.hid hxn
  clear hc1 h1
  obtain ⟨AaC, AaG, AaU, AaA, naC, kaC, naG, kaG, naU, kaU, naA, kaA, s0, s1, s2, s3, s4, s5, s6, s7, s8, s9, hc0⟩ := r_cells h0
  rw [hc0] at h0 ⊢
  have H0 := Lib.hid h0
  clear hc0 h0
  have F1 := Lib.hid (((Fr.refl No W).alloc (.cells #[.slice AaC naC kaC, .slice AaG naG kaG, .slice AaU naU kaU, .slice AaA naA kaA, .string ⟨s0.toArray⟩, .string ⟨s1.toArray⟩, .string ⟨s2.toArray⟩, .string ⟨s3.toArray⟩, .string ⟨s4.toArray⟩, .string ⟨s5.toArray⟩, .string ⟨s6.toArray⟩, .string ⟨s7.toArray⟩, .string ⟨s8.toArray⟩, .string ⟨s9.toArray⟩] 28)).alloc (.cells #[.string ⟨xa.toArray⟩, .string ⟨xb.toArray⟩, .int .i64 n] 41))
  have B1 := Lib.hid ((Blk.new W 28 #[.slice AaC naC kaC, .slice AaG naG kaG, .slice AaU naU kaU, .slice AaA naA kaA, .string ⟨s0.toArray⟩, .string ⟨s1.toArray⟩, .string ⟨s2.toArray⟩, .string ⟨s3.toArray⟩, .string ⟨s4.toArray⟩, .string ⟨s5.toArray⟩, .string ⟨s6.toArray⟩, .string ⟨s7.toArray⟩, .string ⟨s8.toArray⟩, .string ⟨s9.toArray⟩]).alloc (.cells #[.string ⟨xa.toArray⟩, .string ⟨xb.toArray⟩, .int .i64 n] 41))
  have X1 := Blk.new (W.alloc (.cells #[.slice AaC naC kaC, .slice AaG naG kaG, .slice AaU naU kaU, .slice AaA naA kaA, .string ⟨s0.toArray⟩, .string ⟨s1.toArray⟩, .string ⟨s2.toArray⟩, .string ⟨s3.toArray⟩, .string ⟨s4.toArray⟩, .string ⟨s5.toArray⟩, .string ⟨s6.toArray⟩, .string ⟨s7.toArray⟩, .string ⟨s8.toArray⟩, .string ⟨s9.toArray⟩] 28)) 41 #[.string ⟨xa.toArray⟩, .string ⟨xb.toArray⟩, .int .i64 n]
  rw [size_alloc] at X1
  have X1 := Lib.hid X1
  go_enter Try.func4, Try.ntmps4
  go_wp2_with fail
  refine (few_any #[.slice AaC naC kaC, .slice AaG naG kaG, .slice AaU naU kaU, .slice AaA naA kaA, .string ⟨s0.toArray⟩, .string ⟨s1.toArray⟩, .string ⟨s2.toArray⟩, .string ⟨s3.toArray⟩, .string ⟨s4.toArray⟩, .string ⟨s5.toArray⟩, .string ⟨s6.toArray⟩, .string ⟨s7.toArray⟩, .string ⟨s8.toArray⟩, .string ⟨s9.toArray⟩] x0 _ (Ahead W.heap.size) (fun k hk => Nat.lt_of_lt_of_le hk F1.out.size) (Conf.stable.go H0.out (Kept.of_no F1.out fun k hk => hk) fun b hb => hb)).mono ?_
  intro e w2 hp
  obtain ⟨cs, y, rfl, hy, hf2⟩ := hp
  obtain ⟨AbC, kbC, AbG, kbG, AbU, kbU, AbA, kbA, r0, r1, r2, r3, r4, r5, r6, r7, r8, r9, rfl, hyC, -, -, hyA⟩ := q_lit hy
  generalize hnA : y.2.2.2.1.length = nbA at hy hyA ⊢
  generalize y.2.2.1.length = nbU at hy ⊢
  generalize y.2.1.length = nbG at hy ⊢
  generalize hnC : y.1.length = nbC at hy hyC ⊢
  clear hyC
  have hb2 := B1.out.fr hf2 (fun h => h)
  have c0 := hb2.cell 0
  have c1 := hb2.cell 1
  have c2 := hb2.cell 2
  have c3 := hb2.cell 3
  have c4 := hb2.cell 4
  have c5 := hb2.cell 5
  have c6 := hb2.cell 6
  have c7 := hb2.cell 7
  have c8 := hb2.cell 8
  have c9 := hb2.cell 9
  have c10 := hb2.cell 10
  have c11 := hb2.cell 11
  have c12 := hb2.cell 12
  have c13 := hb2.cell 13
  have z0 := hb2.frozen 0
  have z1 := hb2.frozen 1
  have z2 := hb2.frozen 2
  have z3 := hb2.frozen 3
  have z4 := hb2.frozen 4
  have z5 := hb2.frozen 5
  have z6 := hb2.frozen 6
  have z7 := hb2.frozen 7
  have z8 := hb2.frozen 8
  have z9 := hb2.frozen 9
  have z10 := hb2.frozen 10
  have z11 := hb2.frozen 11
  have z12 := hb2.frozen 12
  have z13 := hb2.frozen 13
  simp only [List.getElem?_toArray, List.getElem?_cons_zero, List.getElem?_cons_succ] at c0 c1 c2 c3 c4 c5 c6 c7 c8 c9 c10 c11 c12 c13
  have B2 := Lib.hid hb2
  have X2 := Lib.hid (X1.out.fr hf2 (fun h => h))
  have F2 := Lib.hid (F1.out.then_no hf2)
  have hs2 := hf2.size
  have S1 : ((W.alloc (.cells #[.slice AaC naC kaC, .slice AaG naG kaG, .slice AaU naU kaU, .slice AaA naA kaA, .string ⟨s0.toArray⟩, .string ⟨s1.toArray⟩, .string ⟨s2.toArray⟩, .string ⟨s3.toArray⟩, .string ⟨s4.toArray⟩, .string ⟨s5.toArray⟩, .string ⟨s6.toArray⟩, .string ⟨s7.toArray⟩, .string ⟨s8.toArray⟩, .string ⟨s9.toArray⟩] 28)).alloc (.cells #[.string ⟨xa.toArray⟩, .string ⟨xb.toArray⟩, .int .i64 n] 41)).heap.size = W.heap.size + 1 + 1 := by rw [size_alloc, size_alloc]
  have hs2' : W.heap.size + 1 + 1 ≤ w2.heap.size := by rw [← S1]; exact hs2
  have S1 := Lib.hid S1
  have HY := Lib.hid (And.intro hy hyA)
  clear hb2 hf2 hy hyA hs2
  obtain ⟨bc, hbc⟩ : ∃ bc, W.heap.size = bc := ⟨_, rfl⟩
  obtain ⟨bx, hbx⟩ : ∃ bx, bc + 1 = bx := ⟨_, rfl⟩
  rw [hbc] at B2 c0 z0 c1 z1 c2 z2 c3 z3 c4 z4 c5 z5 c6 z6 c7 z7 c8 z8 c9 z9 c10 z10 c11 z11 c12 z12 c13 z13 hs2' X2 ⊢
  rw [hbc] at S1
  rw [hbx] at X2 hs2' ⊢
  rw [hbx] at S1
  have Hbc := Lib.hid hbc
  have Hbx := Lib.hid hbx
  clear hbc hbx
  go_upto_region 2 with (go_at_call 7; refine (cut40_any _ _).mono ?_; rintro e w' ⟨rfl, rfl⟩)
  have b3 := ((((((((((((((B2.out.put 0 (.slice AbC nbC kbC)).put 1 (.slice AbG nbG kbG)).put 2 (.slice AbU nbU kbU)).put 3 (.slice AbA nbA kbA)).put 4 (.string ⟨r0.toArray⟩)).put 5 (.string ⟨r1.toArray⟩)).put 6 (.string ⟨r2.toArray⟩)).put 7 (.string ⟨r3.toArray⟩)).put 8 (.string ⟨r4.toArray⟩)).put 9 (.string ⟨r5.toArray⟩)).put 10 (.string ⟨r6.toArray⟩)).put 11 (.string ⟨r7.toArray⟩)).put 12 (.string ⟨r8.toArray⟩)).put 13 (.string ⟨r9.toArray⟩))
  simp only [List.setIfInBounds_toArray, List.set_cons_zero, List.set_cons_succ] at b3
  have f3 : Fr (Just bc) w2 _ := ((((((((((((((Fr.refl (Just bc) w2).setCell (p := ⟨bc, 0, none⟩) (.inl rfl) (.slice AbC nbC kbC)).setCell (p := ⟨bc, 1, none⟩) (.inl rfl) (.slice AbG nbG kbG)).setCell (p := ⟨bc, 2, none⟩) (.inl rfl) (.slice AbU nbU kbU)).setCell (p := ⟨bc, 3, none⟩) (.inl rfl) (.slice AbA nbA kbA)).setCell (p := ⟨bc, 4, none⟩) (.inl rfl) (.string ⟨r0.toArray⟩)).setCell (p := ⟨bc, 5, none⟩) (.inl rfl) (.string ⟨r1.toArray⟩)).setCell (p := ⟨bc, 6, none⟩) (.inl rfl) (.string ⟨r2.toArray⟩)).setCell (p := ⟨bc, 7, none⟩) (.inl rfl) (.string ⟨r3.toArray⟩)).setCell (p := ⟨bc, 8, none⟩) (.inl rfl) (.string ⟨r4.toArray⟩)).setCell (p := ⟨bc, 9, none⟩) (.inl rfl) (.string ⟨r5.toArray⟩)).setCell (p := ⟨bc, 10, none⟩) (.inl rfl) (.string ⟨r6.toArray⟩)).setCell (p := ⟨bc, 11, none⟩) (.inl rfl) (.string ⟨r7.toArray⟩)).setCell (p := ⟨bc, 12, none⟩) (.inl rfl) (.string ⟨r8.toArray⟩)).setCell (p := ⟨bc, 13, none⟩) (.inl rfl) (.string ⟨r9.toArray⟩)
  generalize ((((((((((((((w2.setCell ⟨bc, 0, none⟩ (.slice AbC nbC kbC)).setCell ⟨bc, 1, none⟩ (.slice AbG nbG kbG)).setCell ⟨bc, 2, none⟩ (.slice AbU nbU kbU)).setCell ⟨bc, 3, none⟩ (.slice AbA nbA kbA)).setCell ⟨bc, 4, none⟩ (.string ⟨r0.toArray⟩)).setCell ⟨bc, 5, none⟩ (.string ⟨r1.toArray⟩)).setCell ⟨bc, 6, none⟩ (.string ⟨r2.toArray⟩)).setCell ⟨bc, 7, none⟩ (.string ⟨r3.toArray⟩)).setCell ⟨bc, 8, none⟩ (.string ⟨r4.toArray⟩)).setCell ⟨bc, 9, none⟩ (.string ⟨r5.toArray⟩)).setCell ⟨bc, 10, none⟩ (.string ⟨r6.toArray⟩)).setCell ⟨bc, 11, none⟩ (.string ⟨r7.toArray⟩)).setCell ⟨bc, 12, none⟩ (.string ⟨r8.toArray⟩)).setCell ⟨bc, 13, none⟩ (.string ⟨r9.toArray⟩)) = W3 at b3 f3 ⊢
  clear c0 z0 c1 z1 c2 z2 c3 z3 c4 z4 c5 z5 c6 z6 c7 z7 c8 z8 c9 z9 c10 z10 c11 z11 c12 z12 c13 z13
  have B3 := Lib.hid b3
  have X3 := Lib.hid (X2.out.fr f3 (fun e => by have e : bx = bc := e; have := Hbx.out; omega))
  have F3 := Lib.hid (F2.out.trans f3 fun k hk hl => by have hk : k = bc := hk; have := Hbc.out; omega)
  have hs3 := f3.size
  obtain ⟨hi, hhi⟩ : ∃ hi, hi = w2.heap.size := ⟨_, rfl⟩
  have hlt3 : bx + 1 ≤ hi ∧ hi ≤ W3.heap.size := by omega
  have hkp : Kept (New ((W.alloc (.cells #[.slice AaC naC kaC, .slice AaG naG kaG, .slice AaU naU kaU, .slice AaA naA kaA, .string ⟨s0.toArray⟩, .string ⟨s1.toArray⟩, .string ⟨s2.toArray⟩, .string ⟨s3.toArray⟩, .string ⟨s4.toArray⟩, .string ⟨s5.toArray⟩, .string ⟨s6.toArray⟩, .string ⟨s7.toArray⟩, .string ⟨s8.toArray⟩, .string ⟨s9.toArray⟩] 28)).alloc (.cells #[.string ⟨xa.toArray⟩, .string ⟨xb.toArray⟩, .int .i64 n] 41)) w2) w2 W3 := Kept.of_fr f3 fun b hb => ⟨hb.2, fun e => by have e : b = bc := e; have := hb.1; have := S1.out; have := Hbx.out; omega⟩
  have hsb : ∀ b, New ((W.alloc (.cells #[.slice AaC naC kaC, .slice AaG naG kaG, .slice AaU naU kaU, .slice AaA naA kaA, .string ⟨s0.toArray⟩, .string ⟨s1.toArray⟩, .string ⟨s2.toArray⟩, .string ⟨s3.toArray⟩, .string ⟨s4.toArray⟩, .string ⟨s5.toArray⟩, .string ⟨s6.toArray⟩, .string ⟨s7.toArray⟩, .string ⟨s8.toArray⟩, .string ⟨s9.toArray⟩] 28)).alloc (.cells #[.string ⟨xa.toArray⟩, .string ⟨xb.toArray⟩, .int .i64 n] 41)) w2 b → Btw (bx + 1) hi b := fun b hb => ⟨by have := hb.1; have := S1.out; omega, by have := hb.2; omega⟩
  have Y3 := Lib.hid (stable_q.go HY.out.1 (S' := Btw (bx + 1) hi) hkp hsb)
  have YA := Lib.hid ((RSq.stable stable_qacc).go HY.out.2 (S' := Btw (bx + 1) hi) hkp hsb)
  have HS3 := Lib.hid (show ∀ k, Btw (bx + 1) hi k → k < W3.heap.size from fun k hk => Nat.lt_of_lt_of_le hk.2 hlt3.2)
  clear b3 f3 HY B2 X2 F2 S1 hhi hs2' hs3 hkp hsb F1 B1 X1 H0
  have hu := cut40_le x2
  have hn := cut40_le x3
  generalize cutS x2 = user at hu ⊢
  generalize cutS x3 = console at hn ⊢
  -- R2: the texts of the access
  have x0c := X3.out.cell 0
  have x1c := X3.out.cell 1
  have x2c := X3.out.cell 2
  have x0f := X3.out.frozen 0
  have x1f := X3.out.frozen 1
  simp only [List.getElem?_toArray, List.getElem?_cons_zero, List.getElem?_cons_succ] at x0c x1c x2c
  have hxlt := X3.out.lt
  go_cut [] from 22 to 30 (fun wx => Hid (Blk wx bx 41 #[.string ⟨(cutS xa).toArray⟩, .string ⟨(cutS xb).toArray⟩, .int .i64 n]) ∧ Hid (Fr (Just bx) W3 wx))
  case first =>
    go_region_with (go_at_call 7; refine (cut40_any _ _).mono ?_; rintro e w' ⟨rfl, rfl⟩)
    all_goals
      go_wp2_with fail
      go_meet
      case rel => exact ⟨by first | (have h := (X3.out.put 0 (.string ⟨(cutS xa).toArray⟩)).put 1 (.string ⟨(cutS xb).toArray⟩); exact h) | (have h := (X3.out.put 1 (.string ⟨(cutS xb).toArray⟩)).put 0 (.string ⟨(cutS xa).toArray⟩); exact h), (by first | exact ((Fr.refl (Just bx) W3).setCell (p := ⟨bx, 0, none⟩) (.inl rfl) _).setCell (p := ⟨bx, 1, none⟩) (.inl rfl) _ | exact ((Fr.refl (Just bx) W3).setCell (p := ⟨bx, 1, none⟩) (.inl rfl) _).setCell (p := ⟨bx, 0, none⟩) (.inl rfl) _ | exact (((Fr.refl (Just bx) W3).setCell (p := ⟨bx, 0, none⟩) (.inl rfl) _).setCell (p := ⟨bx, 1, none⟩) (.inl rfl) _).drew | exact (((Fr.refl (Just bx) W3).setCell (p := ⟨bx, 1, none⟩) (.inl rfl) _).setCell (p := ⟨bx, 0, none⟩) (.inl rfl) _).drew)⟩
  case rest =>
    obtain ⟨X4, D4⟩ := hcut
    clear x0c x1c x2c x0f x1f
    have hya := cut40_le xa
    have hyb := cut40_le xb
    generalize cutS xa = ya at hya X4
    generalize cutS xb = yb at hyb X4
    have B4 := Lib.hid (B3.out.fr D4.out (fun e => by have e : bc = bx := e; have := Hbx.out; omega))
    have F4 := Lib.hid (F3.out.trans D4.out fun k hk hl => by have hk : k = bx := hk; have := Hbc.out; have := Hbx.out; omega)
    have hkp : Kept (Btw (bx + 1) hi) W3 wc := Kept.of_fr D4.out fun b hb => ⟨HS3.out b hb, fun e => by have e : b = bx := e; have := hb.1; omega⟩
    have Y4 := Lib.hid (stable_q.go Y3.out hkp (fun b hb => hb))
    have YA4 := Lib.hid ((RSq.stable stable_qacc).go YA.out hkp (fun b hb => hb))
    have hz4 : W3.heap.size ≤ wc.heap.size := D4.out.size
    have HS4 := Lib.hid (show ∀ k, Btw (bx + 1) hi k → k < wc.heap.size from fun k hk => Nat.lt_of_lt_of_le (HS3.out k hk) hz4)
    clear hkp Y3 YA HS3 B3 X3 F3 D4
    have x0c := X4.out.cell 0
    have x1c := X4.out.cell 1
    have x2c := X4.out.cell 2
    simp only [List.getElem?_toArray, List.getElem?_cons_zero, List.getElem?_cons_succ] at x0c x1c x2c
    obtain ⟨w4, hw4⟩ : ∃ w4, w4 = wc := ⟨_, rfl⟩
    subst hw4
    go_upto_region 4 with (fail)
    obtain ⟨g, hg⟩ : ∃ g, w4.heap.size = g := ⟨_, rfl⟩
    obtain ⟨bo, hbo⟩ : ∃ bo, g + 1 = bo := ⟨_, rfl⟩
    have a5 := (Blk.new w4 41 #[.string ⟨ya.toArray⟩, .string ⟨yb.toArray⟩, .int .i64 1]).alloc (.cells (#[nil, nil, nil, .slice (some ⟨w4.heap.size, 0, none⟩) 1 1, zs, zs, zs, zs, zs, zs, zs, zs, zs, zs]) 28)
    have o5 := Blk.new (w4.alloc (.cells #[.string ⟨ya.toArray⟩, .string ⟨yb.toArray⟩, .int .i64 1] 41)) 28 (#[nil, nil, nil, .slice (some ⟨w4.heap.size, 0, none⟩) 1 1, zs, zs, zs, zs, zs, zs, zs, zs, zs, zs])
    have d5 := ((Fr.refl No w4).alloc (.cells #[.string ⟨ya.toArray⟩, .string ⟨yb.toArray⟩, .int .i64 1] 41)).alloc (.cells (#[nil, nil, nil, .slice (some ⟨w4.heap.size, 0, none⟩) 1 1, zs, zs, zs, zs, zs, zs, zs, zs, zs, zs]) 28)
    rw [size_alloc] at o5
    rw [hg] at a5 o5 d5 ⊢
    rw [hbo] at o5 ⊢
    generalize (w4.alloc (.cells #[.string ⟨ya.toArray⟩, .string ⟨yb.toArray⟩, .int .i64 1] 41)).alloc (.cells (#[nil, nil, nil, .slice (some ⟨g, 0, none⟩) 1 1, zs, zs, zs, zs, zs, zs, zs, zs, zs, zs]) 28) = w5 at a5 o5 d5 ⊢
    have HYO := Lib.hid (show QConf w5 (fun k => k = g) (#[nil, nil, nil, .slice (some ⟨g, 0, none⟩) 1 1, zs, zs, zs, zs, zs, zs, zs, zs, zs, zs]).toList ([], [], [], [(ya, yb, 1)], [[], [], [], [], [], [], [], [], [], []]) from
      q_mk (vC := nil) (vG := nil) (vU := nil) (vA := .slice (some ⟨g, 0, none⟩) 1 1) (bs := [zs, zs, zs, zs, zs, zs, zs, zs, zs, zs]) ⟨⟨none, 0, rfl, Nat.le_refl _, Nat.zero_le _, fun _ => rfl, fun i hi => by simp at hi⟩, Nat.zero_le _⟩ ⟨⟨none, 0, rfl, Nat.le_refl _, Nat.zero_le _, fun _ => rfl, fun i hi => by simp at hi⟩, Nat.zero_le _⟩ ⟨⟨none, 0, rfl, Nat.le_refl _, Nat.zero_le _, fun _ => rfl, fun i hi => by simp at hi⟩, Nat.zero_le _⟩
        ⟨Sls.own_slE (enc := encA) (l := [(ya, yb, 1)]) (Sls.own_blk (n := 1) (size := 3) a5 rfl (by unfold maxLen; decide)) (fun _ _ => rfl) (fun x hx => by rw [List.mem_singleton.1 hx]; exact encA_rd ⟨hya, hyb, rfl⟩ _ _) (fun b hb => by
          have hb' : some g = some b := hb
          injection hb' with hb'
          exact hb'.symm), by simp⟩
        ⟨rfl, by decide, fun i hi => by
          have hi : i < 10 := hi
          obtain rfl | rfl | rfl | rfl | rfl | rfl | rfl | rfl | rfl | rfl : i = 0 ∨ i = 1 ∨ i = 2 ∨ i = 3 ∨ i = 4 ∨ i = 5 ∨ i = 6 ∨ i = 7 ∨ i = 8 ∨ i = 9 := by omega
          all_goals exact ⟨rfl, Nat.zero_le _⟩⟩)
    obtain ⟨fit, hfit⟩ : ∃ fit, accP user console (ya, yb, n) = fit := ⟨_, rfl⟩
    have HFIT := Lib.hid hfit
    obtain ⟨lvo, hlvo⟩ : ∃ lvo, levelR [(ya, yb, 1)] user console = lvo := ⟨_, rfl⟩
    have hfe : (lvo == 1) = fit := by
      rw [← hlvo, level_ahead, show accP user console (ya, yb, 1) = fit from hfit]
      cases fit <;> rfl
    have HRO := Lib.hid (rlevel_any (#[nil, nil, nil, .slice (some ⟨g, 0, none⟩) 1 1, zs, zs, zs, zs, zs, zs, zs, zs, zs, zs]) ([], [], [], [(ya, yb, 1)], [[], [], [], [], [], [], [], [], [], []]) user console w5 (fun k => k = g) (fun k hk => by rw [hk]; exact a5.lt) HYO.out hn hu)
    simp only [hlvo] at HRO
    have D5 := Lib.hid d5
    have hz5 : w4.heap.size ≤ w5.heap.size := d5.size
    have HG := Lib.hid hg
    have HBO := Lib.hid hbo
    have ov0 := o5.cell 0
    have ov1 := o5.cell 1
    have ov2 := o5.cell 2
    have ov3 := o5.cell 3
    have ov4 := o5.cell 4
    have ov5 := o5.cell 5
    have ov6 := o5.cell 6
    have ov7 := o5.cell 7
    have ov8 := o5.cell 8
    have ov9 := o5.cell 9
    have ov10 := o5.cell 10
    have ov11 := o5.cell 11
    have ov12 := o5.cell 12
    have ov13 := o5.cell 13
    simp only [List.getElem?_toArray, List.getElem?_cons_zero, List.getElem?_cons_succ] at ov0 ov1 ov2 ov3 ov4 ov5 ov6 ov7 ov8 ov9 ov10 ov11 ov12 ov13
    clear hfit hlvo a5 d5 hg hbo x0c x1c x2c
    go_wp2_with fail
    refine HRO.out.mono ?_
    rintro e w6 ⟨rfl, hf⟩
    have D6 := Lib.hid (D5.out.then_no hf)
    have B6 := Lib.hid (B4.out.fr D6.out (fun h => h))
    have X6 := Lib.hid (X4.out.fr D6.out (fun h => h))
    have F6 := Lib.hid (F4.out.then_no D6.out)
    have Y6 := Lib.hid (stable_q.go Y4.out (Kept.of_no D6.out HS4.out) (fun b hb => hb))
    have YA6 := Lib.hid ((RSq.stable stable_qacc).go YA4.out (Kept.of_no D6.out HS4.out) (fun b hb => hb))
    have HS6 := Lib.hid (show ∀ k, Btw (bx + 1) hi k → k < w6.heap.size from fun k hk => Nat.lt_of_lt_of_le (HS4.out k hk) D6.out.size)
    have hz6 : w4.heap.size ≤ w6.heap.size := Nat.le_trans hz5 hf.size
    clear hf D5 D6 B4 X4 F4 Y4 YA4 HS4 HRO HYO ov0 ov1 ov2 ov3 ov4 ov5 ov6 ov7 ov8 ov9 ov10 ov11 ov12 ov13 o5
    go_upto_region 5 with (fail)
    have y0 := B6.out.cell 0
    have y1 := B6.out.cell 1
    have y2 := B6.out.cell 2
    have y3 := B6.out.cell 3
    have y4 := B6.out.cell 4
    have y5 := B6.out.cell 5
    have y6 := B6.out.cell 6
    have y7 := B6.out.cell 7
    have y8 := B6.out.cell 8
    have y9 := B6.out.cell 9
    have y10 := B6.out.cell 10
    have y11 := B6.out.cell 11
    have y12 := B6.out.cell 12
    have y13 := B6.out.cell 13
    simp only [List.getElem?_toArray, List.getElem?_cons_zero, List.getElem?_cons_succ] at y0 y1 y2 y3 y4 y5 y6 y7 y8 y9 y10 y11 y12 y13
    have hlb := B6.out.lt
    go_cut [11, 12] from 11 to 44 (fun pa pb wx => ∃ ga gb : Nat, pa = .pointer (some ⟨ga, 0, none⟩) ∧ pb = .pointer (some ⟨gb, 0, none⟩) ∧ Hid (Blk wx ga 28 #[.slice AbC nbC kbC, .slice AbG nbG kbG, .slice AbU nbU kbU, .slice AbA nbA kbA, .string ⟨r0.toArray⟩, .string ⟨r1.toArray⟩, .string ⟨r2.toArray⟩, .string ⟨r3.toArray⟩, .string ⟨r4.toArray⟩, .string ⟨r5.toArray⟩, .string ⟨r6.toArray⟩, .string ⟨r7.toArray⟩, .string ⟨r8.toArray⟩, .string ⟨r9.toArray⟩] ∧ Blk wx gb 28 #[.slice AbC nbC kbC, .slice AbG nbG kbG, .slice AbU nbU kbU, .slice AbA nbA kbA, .string ⟨r0.toArray⟩, .string ⟨r1.toArray⟩, .string ⟨r2.toArray⟩, .string ⟨r3.toArray⟩, .string ⟨r4.toArray⟩, .string ⟨r5.toArray⟩, .string ⟨r6.toArray⟩, .string ⟨r7.toArray⟩, .string ⟨r8.toArray⟩, .string ⟨r9.toArray⟩] ∧ Fr No w6 wx ∧ w6.heap.size ≤ ga ∧ w6.heap.size ≤ gb ∧ ga ≠ gb))
    case first =>
      have g1 := Lib.hid ((Blk.new w6 28 #[.slice AbC nbC kbC, .slice AbG nbG kbG, .slice AbU nbU kbU, .slice AbA nbA kbA, .string ⟨r0.toArray⟩, .string ⟨r1.toArray⟩, .string ⟨r2.toArray⟩, .string ⟨r3.toArray⟩, .string ⟨r4.toArray⟩, .string ⟨r5.toArray⟩, .string ⟨r6.toArray⟩, .string ⟨r7.toArray⟩, .string ⟨r8.toArray⟩, .string ⟨r9.toArray⟩]).alloc (.cells #[.slice AbC nbC kbC, .slice AbG nbG kbG, .slice AbU nbU kbU, .slice AbA nbA kbA, .string ⟨r0.toArray⟩, .string ⟨r1.toArray⟩, .string ⟨r2.toArray⟩, .string ⟨r3.toArray⟩, .string ⟨r4.toArray⟩, .string ⟨r5.toArray⟩, .string ⟨r6.toArray⟩, .string ⟨r7.toArray⟩, .string ⟨r8.toArray⟩, .string ⟨r9.toArray⟩] 28))
      have g2 := Blk.new (w6.alloc (.cells #[.slice AbC nbC kbC, .slice AbG nbG kbG, .slice AbU nbU kbU, .slice AbA nbA kbA, .string ⟨r0.toArray⟩, .string ⟨r1.toArray⟩, .string ⟨r2.toArray⟩, .string ⟨r3.toArray⟩, .string ⟨r4.toArray⟩, .string ⟨r5.toArray⟩, .string ⟨r6.toArray⟩, .string ⟨r7.toArray⟩, .string ⟨r8.toArray⟩, .string ⟨r9.toArray⟩] 28)) 28 #[.slice AbC nbC kbC, .slice AbG nbG kbG, .slice AbU nbU kbU, .slice AbA nbA kbA, .string ⟨r0.toArray⟩, .string ⟨r1.toArray⟩, .string ⟨r2.toArray⟩, .string ⟨r3.toArray⟩, .string ⟨r4.toArray⟩, .string ⟨r5.toArray⟩, .string ⟨r6.toArray⟩, .string ⟨r7.toArray⟩, .string ⟨r8.toArray⟩, .string ⟨r9.toArray⟩]
      rw [size_alloc] at g2
      have g2 := Lib.hid g2
      have g3 := Lib.hid (((Fr.refl No w6).alloc (.cells #[.slice AbC nbC kbC, .slice AbG nbG kbG, .slice AbU nbU kbU, .slice AbA nbA kbA, .string ⟨r0.toArray⟩, .string ⟨r1.toArray⟩, .string ⟨r2.toArray⟩, .string ⟨r3.toArray⟩, .string ⟨r4.toArray⟩, .string ⟨r5.toArray⟩, .string ⟨r6.toArray⟩, .string ⟨r7.toArray⟩, .string ⟨r8.toArray⟩, .string ⟨r9.toArray⟩] 28)).alloc (.cells #[.slice AbC nbC kbC, .slice AbG nbG kbG, .slice AbU nbU kbU, .slice AbA nbA kbA, .string ⟨r0.toArray⟩, .string ⟨r1.toArray⟩, .string ⟨r2.toArray⟩, .string ⟨r3.toArray⟩, .string ⟨r4.toArray⟩, .string ⟨r5.toArray⟩, .string ⟨r6.toArray⟩, .string ⟨r7.toArray⟩, .string ⟨r8.toArray⟩, .string ⟨r9.toArray⟩] 28))
      go_region_held3 (fun X => X.cell? ⟨bc, 0, none⟩ = some (.slice AbC nbC kbC) ∧ X.cell? ⟨bc, 1, none⟩ = some (.slice AbG nbG kbG) ∧ X.cell? ⟨bc, 2, none⟩ = some (.slice AbU nbU kbU) ∧ X.cell? ⟨bc, 3, none⟩ = some (.slice AbA nbA kbA) ∧ X.cell? ⟨bc, 4, none⟩ = some (.string ⟨r0.toArray⟩) ∧ X.cell? ⟨bc, 5, none⟩ = some (.string ⟨r1.toArray⟩) ∧ X.cell? ⟨bc, 6, none⟩ = some (.string ⟨r2.toArray⟩) ∧ X.cell? ⟨bc, 7, none⟩ = some (.string ⟨r3.toArray⟩) ∧ X.cell? ⟨bc, 8, none⟩ = some (.string ⟨r4.toArray⟩) ∧ X.cell? ⟨bc, 9, none⟩ = some (.string ⟨r5.toArray⟩) ∧ X.cell? ⟨bc, 10, none⟩ = some (.string ⟨r6.toArray⟩) ∧ X.cell? ⟨bc, 11, none⟩ = some (.string ⟨r7.toArray⟩) ∧ X.cell? ⟨bc, 12, none⟩ = some (.string ⟨r8.toArray⟩) ∧ X.cell? ⟨bc, 13, none⟩ = some (.string ⟨r9.toArray⟩)) (go_keep) (fail)
      all_goals
        go_wp2_with fail
        go_meet
        case rel => first | exact ⟨_, _, rfl, rfl, g1.out, g2.out, g3.out.drew, by omega, by omega, by omega⟩ | exact ⟨_, _, rfl, rfl, g2.out, g1.out, g3.out.drew, by omega, by omega, by omega⟩
    case rest =>
      obtain ⟨ga, gb, rfl, rfl, D7⟩ := hcut
      obtain ⟨w7, hw7⟩ : ∃ w7, w7 = wc := ⟨_, rfl⟩
      subst hw7
      have B7 := Lib.hid (B6.out.fr D7.out.2.2.1 (fun h => h))
      have X7 := Lib.hid (X6.out.fr D7.out.2.2.1 (fun h => h))
      have F7 := Lib.hid (F6.out.then_no D7.out.2.2.1)
      have YC7 := Lib.hid (stable_q.go Y6.out (Kept.of_no D7.out.2.2.1 HS6.out) (fun b hb => hb))
      have YA7 := Lib.hid ((RSq.stable stable_qacc).go YA6.out (Kept.of_no D7.out.2.2.1 HS6.out) (fun b hb => hb))
      have HS7 := Lib.hid (show ∀ k, Btw (bx + 1) hi k → k < w7.heap.size from fun k hk => Nat.lt_of_lt_of_le (HS6.out k hk) D7.out.2.2.1.size)
      have GA := Lib.hid D7.out.1
      have GB := Lib.hid D7.out.2.1
      have h6a := D7.out.2.2.2.1
      have h6b := D7.out.2.2.2.2.1
      have hab := D7.out.2.2.2.2.2
      have hgal := GA.out.lt
      have hgbl := GB.out.lt
      have hbcl := B7.out.lt
      have hbxl := X7.out.lt
      have hb6 := B6.out.lt
      have hx6 := X6.out.lt
      clear y0 y1 y2 y3 y4 y5 y6 y7 y8 y9 y10 y11 y12 y13 hlb D7 B6 X6 F6 Y6 YA6 HS6
      have x0c := X7.out.cell 0
      have x1c := X7.out.cell 1
      have x2c := X7.out.cell 2
      have y3 := B7.out.cell 3
      simp only [List.getElem?_toArray, List.getElem?_cons_zero, List.getElem?_cons_succ] at x0c x1c x2c y3
      have HXO := Lib.hid (show AccOk (ya, yb, n) from ⟨hya, hyb, HXN.out⟩)
      obtain ⟨acc, hacc⟩ : ∃ acc, y.2.2.2.1 = acc := ⟨_, rfl⟩
      rw [hacc] at YA7 hnA
      have HACC := Lib.hid hacc
      have hn12 : nbA ≤ 12 := by rw [← hnA]; exact YA7.out.2
      have HNA := Lib.hid hnA
      clear hnA hacc
      have L7 := Lib.hid (Sls.Grow.lit w7 41 3 encA [(ya, yb, n)] rfl (by unfold maxLen; show 1 ≤ 2 ^ 63 - 1; decide))
      have N7 := Lib.hid (Sls.sl_news (by decide) ((RSl.stable stable_qacc).go YA7.out.1 (Kept.of_no L7.out.fr HS7.out) (fun b hb => hb)) (fun _ _ => rfl) (fun cs x h => enc_acc h))
      have E7 := Lib.hid (show (acc.flatMap encA).length = nbA * 3 by rw [encA_len, HNA.out])
      go_upto_region 7 with (at_builtin; go_loud (refine wp_app (B := AbA) (m := nbA) (c := kbA) (news := acc.flatMap encA) rfl (.tmp 45) (.tmp 47) 25 rfl 41 (.agg #[.string ByteArray.empty, .string ByteArray.empty, .int .i64 0]) 3 40 Try.underlying25 infoAcc rfl (by decide) (.slice (some ⟨w7.heap.size, 0, none⟩) 1 1) 1 ([(ya, yb, n)].flatMap encA) rfl L7.out.own rfl E7.out N7.out (encA_one _) (by omega) (by unfold maxLen; omega) ?_; intro v8 w8 p1 p2 p3; have G8 := Lib.hid (L7.out.app (m := acc) (by rw [HNA.out]; exact p1) p2 p3); clear p1 p2 p3; obtain ⟨A8, k8, e8⟩ := G8.out.form; obtain ⟨n8, hn8⟩ : ∃ n8, ([(ya, yb, n)] ++ acc).length = n8 := ⟨_, rfl⟩; rw [hn8] at e8; have HN8 := Lib.hid hn8; clear hn8; subst e8; have b8 := GA.out.fr G8.out.fr (fun h => h); have r0 := b8.cell 3; have r1 := b8.frozen 3; simp at r0; clear b8))
      have f9 : Fr (Just ga) w8 (w8.setCell ⟨ga, 3, none⟩ (.slice A8 n8 k8)) := (Fr.refl (Just ga) w8).setCell (p := ⟨ga, 3, none⟩) (.inl rfl) _
      have d9 : Fr (Just ga) w7 (w8.setCell ⟨ga, 3, none⟩ (.slice A8 n8 k8)) := (G8.out.fr.no _).trans f9 (fun _ h _ => h)
      have ga9 := (GA.out.fr G8.out.fr (fun h => h)).put 3 (.slice A8 n8 k8)
      simp only [List.setIfInBounds_toArray, List.set_cons_zero, List.set_cons_succ] at ga9
      have og9 := own_fr G8.out.own f9 (fun b hb e => by have e : b = ga := e; have := (G8.out.new b hb).1; omega)
      rw [HN8.out] at og9
      have nw9 : ∀ b, Of (.slice A8 n8 k8) b → w7.heap.size ≤ b ∧ b < w8.heap.size := fun b hb => (G8.out.new b hb)
      have hz9 : w8.heap.size ≤ (w8.setCell ⟨ga, 3, none⟩ (.slice A8 n8 k8)).heap.size := f9.size
      clear f9 r0 r1 x0c x1c x2c y3
      generalize w8.setCell ⟨ga, 3, none⟩ (.slice A8 n8 k8) = w9 at d9 ga9 og9 hz9 ⊢
      have GA9 := Lib.hid ga9
      have OG9 := Lib.hid og9
      have NW9 := Lib.hid (show ∀ b, Of (.slice A8 n8 k8) b → w7.heap.size ≤ b ∧ b < w9.heap.size from fun b hb => ⟨(nw9 b hb).1, Nat.lt_of_lt_of_le (nw9 b hb).2 hz9⟩)
      have B9 := Lib.hid (B7.out.fr d9 (fun e => by have e : bc = ga := e; omega))
      have X9 := Lib.hid (X7.out.fr d9 (fun e => by have e : bx = ga := e; omega))
      have GB9 := Lib.hid (GB.out.fr d9 (fun e => by have e : gb = ga := e; omega))
      have F9 := Lib.hid (F7.out.trans d9 fun k hk hl => by have hk : k = ga := hk; have := F7.out.size; have := Hbc.out; omega)
      have hkp : Kept (Btw (bx + 1) hi) w7 w9 := Kept.of_fr d9 fun b hb => ⟨HS7.out b hb, fun e => by have e : b = ga := e; have := hb.2; omega⟩
      have Y9 := Lib.hid (stable_q.go YC7.out hkp (fun b hb => hb))
      have YA9 := Lib.hid ((RSq.stable stable_qacc).go YA7.out hkp (fun b hb => hb))
      have hd9 : w7.heap.size ≤ w9.heap.size := d9.size
      have HS9 := Lib.hid (show ∀ k, Btw (bx + 1) hi k → k < w9.heap.size from fun k hk => Nat.lt_of_lt_of_le (HS7.out k hk) hd9)
      clear ga9 og9 nw9 hz9 d9 hkp B7 X7 GA GB F7 YC7 YA7 HS7 L7 N7 G8
      have x0c := X9.out.cell 0
      have x1c := X9.out.cell 1
      have x2c := X9.out.cell 2
      have y3 := B9.out.cell 3
      simp only [List.getElem?_toArray, List.getElem?_cons_zero, List.getElem?_cons_succ] at x0c x1c x2c y3
      have hb9 := B9.out.lt
      have hx9 := X9.out.lt
      have hg9 := GB9.out.lt
      have N9 := Lib.hid (fun (X : World) (hf : Fr No w9 X) => Sls.sl_news (by decide) ((RSl.stable stable_qacc).go YA9.out.1 (Kept.of_no hf HS9.out) (fun b hb => hb)) (fun _ _ => rfl) (fun cs x h => enc_acc h))
      have E9 := E7
      go_cut [] from 50 to 58 (fun wx => ∃ (A11 : Option Addr) (k11 : Nat), Hid (wx.ownsRow 0 41 3 (.slice A11 (nbA + 1) k11) (nbA + 1) ((acc ++ [(ya, yb, n)]).flatMap encA)) ∧ Hid (∀ b, Of (.slice A11 (nbA + 1) k11) b → w9.heap.size ≤ b ∧ b < wx.heap.size) ∧ Hid (Blk wx gb 28 (#[.slice AbC nbC kbC, .slice AbG nbG kbG, .slice AbU nbU kbU, .slice A11 (nbA + 1) k11, .string ⟨r0.toArray⟩, .string ⟨r1.toArray⟩, .string ⟨r2.toArray⟩, .string ⟨r3.toArray⟩, .string ⟨r4.toArray⟩, .string ⟨r5.toArray⟩, .string ⟨r6.toArray⟩, .string ⟨r7.toArray⟩, .string ⟨r8.toArray⟩, .string ⟨r9.toArray⟩])) ∧ Hid (Fr (Just gb) w9 wx))
      case first =>
        have HK := Lib.hid (fun (X : World) (hf : Fr (Just gb) w9 X) => (show X.cell? ⟨bx, 0, none⟩ = some (.string ⟨ya.toArray⟩) ∧ X.cell? ⟨bx, 1, none⟩ = some (.string ⟨yb.toArray⟩) ∧ X.cell? ⟨bx, 2, none⟩ = some (.int .i64 n) ∧ X.cell? ⟨bc, 3, none⟩ = some (.slice AbA nbA kbA) from ⟨(hf.cell (p := ⟨bx, 0, none⟩) hx9 (fun e => by have e : bx = gb := e; omega)).trans x0c, (hf.cell (p := ⟨bx, 1, none⟩) hx9 (fun e => by have e : bx = gb := e; omega)).trans x1c, (hf.cell (p := ⟨bx, 2, none⟩) hx9 (fun e => by have e : bx = gb := e; omega)).trans x2c, (hf.cell (p := ⟨bc, 3, none⟩) hb9 (fun e => by have e : bc = gb := e; omega)).trans y3⟩))
        have BE1 := Lib.hid (Blk.new w9 41 #[])
        have BE2 := Lib.hid (BE1.out.alloc (.cells #[.string ⟨ya.toArray⟩, .string ⟨yb.toArray⟩, .int .i64 n] 41))
        have BX2 := Blk.new (w9.alloc (.cells #[] 41)) 41 #[.string ⟨ya.toArray⟩, .string ⟨yb.toArray⟩, .int .i64 n]
        rw [size_alloc] at BX2
        have BX2 := Lib.hid BX2
        have BX3 := Lib.hid ((Blk.new w9 41 #[.string ⟨ya.toArray⟩, .string ⟨yb.toArray⟩, .int .i64 n]).alloc (.cells #[] 41))
        have BE3 := Blk.new (w9.alloc (.cells #[.string ⟨ya.toArray⟩, .string ⟨yb.toArray⟩, .int .i64 n] 41)) 41 #[]
        rw [size_alloc] at BE3
        have BE3 := Lib.hid BE3
        go_region_held3 (fun X => X.cell? ⟨bx, 0, none⟩ = some (.string ⟨ya.toArray⟩) ∧ X.cell? ⟨bx, 1, none⟩ = some (.string ⟨yb.toArray⟩) ∧ X.cell? ⟨bx, 2, none⟩ = some (.int .i64 n) ∧ X.cell? ⟨bc, 3, none⟩ = some (.slice AbA nbA kbA)) (first | (refine HK.out _ ?_; (repeat' (first | with_reducible assumption | with_reducible exact Fr.refl _ _ | with_reducible refine Fr.drew ?_ | with_reducible refine Fr.alloc ?_ _)); done) | exact HK.out _ (Fr.setCell (p := ⟨gb, 3, none⟩) hg11 (.inl rfl) _) | (refine HK.out _ (Fr.setCell (p := ⟨gb, 3, none⟩) ?_ (.inl rfl) _); (repeat' (first | with_reducible assumption | with_reducible exact Fr.refl _ _ | with_reducible refine Fr.drew ?_ | with_reducible refine Fr.alloc ?_ _)); done)) (first | (refine Sls.step_grow (w := w9) (enc := encA) (l := []) (mm := acc) (n := 0) (m := nbA) (B := AbA) (c := kbA) (fun _ => True) rfl (.tmp 50) (.tmp 52) 25 rfl 41 (.agg #[.string ByteArray.empty, .string ByteArray.empty, .int .i64 0]) 3 40 Try.underlying25 infoAcc rfl (by decide) (.slice (some ⟨w9.heap.size, 0, none⟩) 0 0) (by (first | (simp [Act.eval, Act.put]; done) | (simp [Act.eval, Act.put, size_alloc]; done) | exact congrArg (fun i => Value.slice (some ⟨i, 0, none⟩) 0 0) (size_alloc w9 _))) rfl (by exact Sls.Grow.lits (l := []) BE1.out (by omega) (by repeat' (first | with_reducible assumption | with_reducible exact Fr.refl _ _ | with_reducible refine Fr.drew ?_ | with_reducible refine Fr.alloc ?_ _)) rfl (Nat.zero_le _)) (by simp [Act.eval, Act.put]) HNA.out E9.out (N9.out _ (by repeat' (first | with_reducible assumption | with_reducible exact Fr.refl _ _ | with_reducible refine Fr.drew ?_ | with_reducible refine Fr.alloc ?_ _))) (encA_one _) (by omega) (by unfold maxLen; omega) (fun _ _ => trivial) ?_; intro A10 k10 w10 q1 q2; have G10 : Hid (Sls.Grow w9 w10 41 3 encA (.slice A10 (0 + nbA) k10) acc) := Lib.hid q1; rw [Nat.zero_add] at G10 ⊢; have hf10 : Fr No w9 w10 := G10.out.fr; have hg10 : Fr (Just gb) w9 w10 := hf10.no _; clear q1 q2) | (refine Sls.step_grow (w := w9) (enc := encA) (l := []) (mm := acc) (n := 0) (m := nbA) (B := AbA) (c := kbA) (fun w' => Blk w' (w9.heap.size + 1) 41 #[.string ⟨ya.toArray⟩, .string ⟨yb.toArray⟩, .int .i64 n]) rfl (.tmp 50) (.tmp 52) 25 rfl 41 (.agg #[.string ByteArray.empty, .string ByteArray.empty, .int .i64 0]) 3 40 Try.underlying25 infoAcc rfl (by decide) (.slice (some ⟨w9.heap.size, 0, none⟩) 0 0) (by (first | (simp [Act.eval, Act.put]; done) | (simp [Act.eval, Act.put, size_alloc]; done) | exact congrArg (fun i => Value.slice (some ⟨i, 0, none⟩) 0 0) (size_alloc w9 _))) rfl (by exact Sls.Grow.lits (l := []) BE2.out (by omega) (by repeat' (first | with_reducible assumption | with_reducible exact Fr.refl _ _ | with_reducible refine Fr.drew ?_ | with_reducible refine Fr.alloc ?_ _)) rfl (Nat.zero_le _)) (by simp [Act.eval, Act.put]) HNA.out E9.out (N9.out _ (by repeat' (first | with_reducible assumption | with_reducible exact Fr.refl _ _ | with_reducible refine Fr.drew ?_ | with_reducible refine Fr.alloc ?_ _))) (encA_one _) (by omega) (by unfold maxLen; omega) (fun w' hf => Blk.fr (by exact BX2.out) hf (fun e => by have := Sls.of_slice e; omega)) ?_; intro A10 k10 w10 q1 q2; have G10 : Hid (Sls.Grow w9 w10 41 3 encA (.slice A10 (0 + nbA) k10) acc) := Lib.hid q1; rw [Nat.zero_add] at G10 ⊢; have BX10 := Lib.hid q2; have hf10 : Fr No w9 w10 := G10.out.fr; have hg10 : Fr (Just gb) w9 w10 := hf10.no _; clear q1 q2) | (refine Sls.step_grow (w := w9) (enc := encA) (l := []) (mm := acc) (n := 0) (m := nbA) (B := AbA) (c := kbA) (fun w' => Blk w' (w9.heap.size) 41 #[.string ⟨ya.toArray⟩, .string ⟨yb.toArray⟩, .int .i64 n]) rfl (.tmp 50) (.tmp 52) 25 rfl 41 (.agg #[.string ByteArray.empty, .string ByteArray.empty, .int .i64 0]) 3 40 Try.underlying25 infoAcc rfl (by decide) (.slice (some ⟨w9.heap.size + 1, 0, none⟩) 0 0) (by (first | (simp [Act.eval, Act.put]; done) | (simp [Act.eval, Act.put, size_alloc]; done) | exact congrArg (fun i => Value.slice (some ⟨i, 0, none⟩) 0 0) (size_alloc w9 _))) rfl (by exact Sls.Grow.lits (l := []) BE3.out (by omega) (by repeat' (first | with_reducible assumption | with_reducible exact Fr.refl _ _ | with_reducible refine Fr.drew ?_ | with_reducible refine Fr.alloc ?_ _)) rfl (Nat.zero_le _)) (by simp [Act.eval, Act.put]) HNA.out E9.out (N9.out _ (by repeat' (first | with_reducible assumption | with_reducible exact Fr.refl _ _ | with_reducible refine Fr.drew ?_ | with_reducible refine Fr.alloc ?_ _))) (encA_one _) (by omega) (by unfold maxLen; omega) (fun w' hf => Blk.fr (by exact BX3.out) hf (fun e => by have := Sls.of_slice e; omega)) ?_; intro A10 k10 w10 q1 q2; have G10 : Hid (Sls.Grow w9 w10 41 3 encA (.slice A10 (0 + nbA) k10) acc) := Lib.hid q1; rw [Nat.zero_add] at G10 ⊢; have BX10 := Lib.hid q2; have hf10 : Fr No w9 w10 := G10.out.fr; have hg10 : Fr (Just gb) w9 w10 := hf10.no _; clear q1 q2) | (refine Sls.step_grow (w := w9) (enc := encA) (l := acc) (mm := [(ya, yb, n)]) (n := nbA) (m := 1) (B := some ⟨w9.heap.size + 1, 0, none⟩) (c := 1) (fun _ => True) rfl (.tmp 53) (.tmp 55) 25 rfl 41 (.agg #[.string ByteArray.empty, .string ByteArray.empty, .int .i64 0]) 3 40 Try.underlying25 infoAcc rfl (by decide) (.slice A10 nbA k10) (by simp [Act.eval, Act.put]) HNA.out (by exact G10.out.no (by repeat' (first | with_reducible assumption | with_reducible exact Fr.refl _ _ | with_reducible refine Fr.drew ?_ | with_reducible refine Fr.alloc ?_ _))) (by (first | (simp [Act.eval, Act.put]; done) | (simp [Act.eval, Act.put, size_alloc]; done))) rfl rfl (by exact Sls.blk_news (cs := #[.string ⟨ya.toArray⟩, .string ⟨yb.toArray⟩, .int .i64 n]) (e := 41) BX10.out) (encA_one _) (by omega) (by unfold maxLen; omega) (fun _ _ => trivial) ?_; intro A11 k11 w11 q1 q2; have G11 : Hid (Sls.Grow w9 w11 41 3 encA (.slice A11 (nbA + 1) k11) (acc ++ [(ya, yb, n)])) := Lib.hid q1; clear q1 q2; have hf11 : Fr No w9 w11 := G11.out.fr; have hg11 : Fr (Just gb) w9 w11 := hf11.no _; have b11 := GB9.out.fr hf11 (fun h => h); have r0 := b11.cell 3; have r1 := b11.frozen 3; simp at r0; clear b11) | (refine Sls.step_grow (w := w9) (enc := encA) (l := acc) (mm := [(ya, yb, n)]) (n := nbA) (m := 1) (B := some ⟨w9.heap.size, 0, none⟩) (c := 1) (fun _ => True) rfl (.tmp 53) (.tmp 55) 25 rfl 41 (.agg #[.string ByteArray.empty, .string ByteArray.empty, .int .i64 0]) 3 40 Try.underlying25 infoAcc rfl (by decide) (.slice A10 nbA k10) (by simp [Act.eval, Act.put]) HNA.out (by exact G10.out.no (by repeat' (first | with_reducible assumption | with_reducible exact Fr.refl _ _ | with_reducible refine Fr.drew ?_ | with_reducible refine Fr.alloc ?_ _))) (by (first | (simp [Act.eval, Act.put]; done) | (simp [Act.eval, Act.put, size_alloc]; done))) rfl rfl (by exact Sls.blk_news (cs := #[.string ⟨ya.toArray⟩, .string ⟨yb.toArray⟩, .int .i64 n]) (e := 41) BX10.out) (encA_one _) (by omega) (by unfold maxLen; omega) (fun _ _ => trivial) ?_; intro A11 k11 w11 q1 q2; have G11 : Hid (Sls.Grow w9 w11 41 3 encA (.slice A11 (nbA + 1) k11) (acc ++ [(ya, yb, n)])) := Lib.hid q1; clear q1 q2; have hf11 : Fr No w9 w11 := G11.out.fr; have hg11 : Fr (Just gb) w9 w11 := hf11.no _; have b11 := GB9.out.fr hf11 (fun h => h); have r0 := b11.cell 3; have r1 := b11.frozen 3; simp at r0; clear b11) | (refine Sls.step_grow (w := w9) (enc := encA) (l := acc) (mm := [(ya, yb, n)]) (n := nbA) (m := 1) (B := some ⟨w10.heap.size, 0, none⟩) (c := 1) (fun _ => True) rfl (.tmp 53) (.tmp 55) 25 rfl 41 (.agg #[.string ByteArray.empty, .string ByteArray.empty, .int .i64 0]) 3 40 Try.underlying25 infoAcc rfl (by decide) (.slice A10 nbA k10) (by simp [Act.eval, Act.put]) HNA.out (by exact G10.out.no (by repeat' (first | with_reducible assumption | with_reducible exact Fr.refl _ _ | with_reducible refine Fr.drew ?_ | with_reducible refine Fr.alloc ?_ _))) (by (first | (simp [Act.eval, Act.put]; done) | (simp [Act.eval, Act.put, size_alloc]; done))) rfl rfl (by exact Sls.blk_news (cs := #[.string ⟨ya.toArray⟩, .string ⟨yb.toArray⟩, .int .i64 n]) (e := 41) (Blk.new w10 41 #[.string ⟨ya.toArray⟩, .string ⟨yb.toArray⟩, .int .i64 n])) (encA_one _) (by omega) (by unfold maxLen; omega) (fun _ _ => trivial) ?_; intro A11 k11 w11 q1 q2; have G11 : Hid (Sls.Grow w9 w11 41 3 encA (.slice A11 (nbA + 1) k11) (acc ++ [(ya, yb, n)])) := Lib.hid q1; clear q1 q2; have hf11 : Fr No w9 w11 := G11.out.fr; have hg11 : Fr (Just gb) w9 w11 := hf11.no _; have b11 := GB9.out.fr hf11 (fun h => h); have r0 := b11.cell 3; have r1 := b11.frozen 3; simp at r0; clear b11))
        all_goals
          go_wp2_with fail
          go_meet
          case rel =>
            have f11 : Fr (Just gb) w11 (w11.setCell ⟨gb, 3, none⟩ (.slice A11 (nbA + 1) k11)) := (Fr.refl (Just gb) w11).setCell (p := ⟨gb, 3, none⟩) (.inl rfl) _
            have hnw := G11.out.new
            have o11 := own_fr G11.out.own f11 (fun b hb e => by have e : b = gb := e; have := (hnw b hb).1; omega)
            rw [List.length_append, HNA.out] at o11
            have b11 := (GB9.out.fr hf11 (fun h => h)).put 3 (.slice A11 (nbA + 1) k11)
            exact ⟨A11, k11, Lib.hid o11, Lib.hid (fun b hb => ⟨(hnw b hb).1, Nat.lt_of_lt_of_le (hnw b hb).2 f11.size⟩), Lib.hid (by simpa using b11), Lib.hid ((hf11.no _).trans f11 (fun _ h _ => h))⟩
      case rest =>
        obtain ⟨A11, k11, OG, NG, GC, DG⟩ := hcut
        have B11 := Lib.hid (B9.out.fr DG.out (fun e => by have e : bc = gb := e; omega))
        have X11 := Lib.hid (X9.out.fr DG.out (fun e => by have e : bx = gb := e; omega))
        have GA11 := Lib.hid (GA9.out.fr DG.out (fun e => by have e : ga = gb := e; omega))
        have F11 := Lib.hid (F9.out.trans DG.out fun k hk hl => by have hk : k = gb := hk; have := Hbc.out; omega)
        have hkp : Kept (Btw (bx + 1) hi) w9 wc := Kept.of_fr DG.out fun b hb => ⟨HS9.out b hb, fun e => by have e : b = gb := e; have := hb.2; omega⟩
        have Y11 := Lib.hid (stable_q.go Y9.out hkp (fun b hb => hb))
        have YA11 := Lib.hid ((RSq.stable stable_qacc).go YA9.out hkp (fun b hb => hb))
        have hd11 : w9.heap.size ≤ wc.heap.size := DG.out.size
        have HS11 := Lib.hid (show ∀ k, Btw (bx + 1) hi k → k < wc.heap.size from fun k hk => Nat.lt_of_lt_of_le (HS9.out k hk) hd11)
        have OG11 := Lib.hid (own_fr OG9.out DG.out (fun b hb e => by have e : b = gb := e; have := (NW9.out b hb).1; omega))
        have NW11 := Lib.hid (show ∀ b, Of (.slice A8 n8 k8) b → w7.heap.size ≤ b ∧ b < wc.heap.size from fun b hb => ⟨(NW9.out b hb).1, Nat.lt_of_lt_of_le (NW9.out b hb).2 hd11⟩)
        clear hkp B9 X9 GA9 F9 Y9 YA9 HS9 OG9 NW9 GB9 N9 E9 E7 DG
        clear x0c x1c x2c y3 
        obtain ⟨w11, hw11⟩ : ∃ w11, w11 = wc := ⟨_, rfl⟩
        subst hw11
        have HR8 := Lib.hid (level_any (#[.slice AbC nbC kbC, .slice AbG nbG kbG, .slice AbU nbU kbU, .slice AbA nbA kbA, .string ⟨r0.toArray⟩, .string ⟨r1.toArray⟩, .string ⟨r2.toArray⟩, .string ⟨r3.toArray⟩, .string ⟨r4.toArray⟩, .string ⟨r5.toArray⟩, .string ⟨r6.toArray⟩, .string ⟨r7.toArray⟩, .string ⟨r8.toArray⟩, .string ⟨r9.toArray⟩]) y user console w11 (Btw (bx + 1) hi) HS11.out Y11.out hn hu)
        obtain ⟨was, hwas⟩ : ∃ was, levelR y.2.2.2.1 user console = was := ⟨_, rfl⟩
        simp only [hwas] at HR8
        have HWAS := Lib.hid hwas
        clear hwas
        have y0 := B11.out.cell 0
        have y1 := B11.out.cell 1
        have y2 := B11.out.cell 2
        have y3 := B11.out.cell 3
        have y4 := B11.out.cell 4
        have y5 := B11.out.cell 5
        have y6 := B11.out.cell 6
        have y7 := B11.out.cell 7
        have y8 := B11.out.cell 8
        have y9 := B11.out.cell 9
        have y10 := B11.out.cell 10
        have y11 := B11.out.cell 11
        have y12 := B11.out.cell 12
        have y13 := B11.out.cell 13
        simp only [List.getElem?_toArray, List.getElem?_cons_zero, List.getElem?_cons_succ] at y0 y1 y2 y3 y4 y5 y6 y7 y8 y9 y10 y11 y12 y13
        go_wp2_with fail
        refine HR8.out.mono ?_
        rintro e w12 ⟨rfl, hf⟩
        have B12 := Lib.hid (B11.out.fr hf (fun h => h))
        have X12 := Lib.hid (X11.out.fr hf (fun h => h))
        have GA12 := Lib.hid (GA11.out.fr hf (fun h => h))
        have GB12 := Lib.hid (GC.out.fr hf (fun h => h))
        have F12 := Lib.hid (F11.out.then_no hf)
        have Y12 := Lib.hid (stable_q.go Y11.out (Kept.of_no hf HS11.out) (fun b hb => hb))
        have YA12 := Lib.hid ((RSq.stable stable_qacc).go YA11.out (Kept.of_no hf HS11.out) (fun b hb => hb))
        have hd12 : w11.heap.size ≤ w12.heap.size := hf.size
        have HS12 := Lib.hid (show ∀ k, Btw (bx + 1) hi k → k < w12.heap.size from fun k hk => Nat.lt_of_lt_of_le (HS11.out k hk) hd12)
        have OA12 := Lib.hid (own_fr OG11.out hf (fun _ _ h => h))
        have OB12 := Lib.hid (own_fr OG.out hf (fun _ _ h => h))
        have NA12 := Lib.hid (show ∀ b, Of (.slice A8 n8 k8) b → b < w12.heap.size from fun b hb => Nat.lt_of_lt_of_le (NW11.out b hb).2 hd12)
        have NB12 := Lib.hid (show ∀ b, Of (.slice A11 (nbA + 1) k11) b → b < w12.heap.size from fun b hb => Nat.lt_of_lt_of_le (NG.out b hb).2 hd12)
        clear hf B11 X11 GA11 GC F11 Y11 YA11 HS11 OG11 OG NW11 NG HR8
        have QA := Lib.hid (conf_w (v := .slice A8 n8 k8) (l := [(ya, yb, n)] ++ acc) Y12.out (S2 := fun b => Btw (bx + 1) hi b ∨ Of (.slice A8 n8 k8) b) (Sls.own_slE (enc := encA) (by rw [HN8.out]; exact OA12.out) (fun _ _ => rfl) (fun x hx => (List.mem_append.1 hx).elim (fun h => by rw [List.mem_singleton.1 h]; exact encA_rd HXO.out _ _) (fun h => encA_rd (sl_accs YA12.out.1 x h) _ _)) (fun b hb => .inr hb)) (by rw [List.length_append, HNA.out]; show 1 + nbA ≤ 13; omega) (fun b hb => .inl hb))
        have QB := Lib.hid (conf_w (v := .slice A11 (nbA + 1) k11) (l := acc ++ [(ya, yb, n)]) Y12.out (S2 := fun b => Btw (bx + 1) hi b ∨ Of (.slice A11 (nbA + 1) k11) b) (Sls.own_slE (enc := encA) (by rw [List.length_append, HNA.out]; exact OB12.out) (fun _ _ => rfl) (fun x hx => (List.mem_append.1 hx).elim (fun h => encA_rd (sl_accs YA12.out.1 x h) _ _) (fun h => by rw [List.mem_singleton.1 h]; exact encA_rd HXO.out _ _)) (fun b hb => .inr hb)) (by rw [List.length_append, HNA.out]; show nbA + 1 ≤ 13; omega) (fun b hb => .inl hb))
        go_wp2_with fail
        obtain ⟨lva, hlva⟩ : ∃ lva, levelR ([(ya, yb, n)] ++ acc) user console = lva := ⟨_, rfl⟩
        obtain ⟨lvb, hlvb⟩ : ∃ lvb, levelR (acc ++ [(ya, yb, n)]) user console = lvb := ⟨_, rfl⟩
        have HA := fun (X : World) (hf : Fr No w12 X) => Conf.W.level_any (#[.slice AbC nbC kbC, .slice AbG nbG kbG, .slice AbU nbU kbU, .slice A8 n8 k8, .string ⟨r0.toArray⟩, .string ⟨r1.toArray⟩, .string ⟨r2.toArray⟩, .string ⟨r3.toArray⟩, .string ⟨r4.toArray⟩, .string ⟨r5.toArray⟩, .string ⟨r6.toArray⟩, .string ⟨r7.toArray⟩, .string ⟨r8.toArray⟩, .string ⟨r9.toArray⟩]) (y.1, y.2.1, y.2.2.1, [(ya, yb, n)] ++ acc, y.2.2.2.2) user console X (fun b => Btw (bx + 1) hi b ∨ Of (.slice A8 n8 k8) b) (fun k hk => Nat.lt_of_lt_of_le (hk.elim (HS12.out k) (NA12.out k)) hf.size) (stable_qw.go QA.out (Kept.of_no hf (fun k hk => hk.elim (HS12.out k) (NA12.out k))) (fun b hb => hb)) hn hu
        have HB := fun (X : World) (hf : Fr No w12 X) => Conf.W.level_any (#[.slice AbC nbC kbC, .slice AbG nbG kbG, .slice AbU nbU kbU, .slice A11 (nbA + 1) k11, .string ⟨r0.toArray⟩, .string ⟨r1.toArray⟩, .string ⟨r2.toArray⟩, .string ⟨r3.toArray⟩, .string ⟨r4.toArray⟩, .string ⟨r5.toArray⟩, .string ⟨r6.toArray⟩, .string ⟨r7.toArray⟩, .string ⟨r8.toArray⟩, .string ⟨r9.toArray⟩]) (y.1, y.2.1, y.2.2.1, acc ++ [(ya, yb, n)], y.2.2.2.2) user console X (fun b => Btw (bx + 1) hi b ∨ Of (.slice A11 (nbA + 1) k11) b) (fun k hk => Nat.lt_of_lt_of_le (hk.elim (HS12.out k) (NB12.out k)) hf.size) (stable_qw.go QB.out (Kept.of_no hf (fun k hk => hk.elim (HS12.out k) (NB12.out k))) (fun b hb => hb)) hn hu
        simp only [hlva] at HA
        simp only [hlvb] at HB
        have HA := Lib.hid HA
        have HB := Lib.hid HB
        have HLA := Lib.hid hlva
        have HLB := Lib.hid hlvb
        clear hlva hlvb y0 y1 y2 y3 y4 y5 y6 y7 y8 y9 y10 y11 y12 y13
        go_cut [14, 15] from 14 to 70 (fun pa pb wx => pa = .int .i64 lva ∧ pb = .int .i64 lvb ∧ Hid (Fr No w12 wx))
        case first =>
          have a0 := GA12.out.cell 0
          have a1 := GA12.out.cell 1
          have a2 := GA12.out.cell 2
          have a3 := GA12.out.cell 3
          have a4 := GA12.out.cell 4
          have a5 := GA12.out.cell 5
          have a6 := GA12.out.cell 6
          have a7 := GA12.out.cell 7
          have a8 := GA12.out.cell 8
          have a9 := GA12.out.cell 9
          have a10 := GA12.out.cell 10
          have a11 := GA12.out.cell 11
          have a12 := GA12.out.cell 12
          have a13 := GA12.out.cell 13
          simp only [List.getElem?_toArray, List.getElem?_cons_zero, List.getElem?_cons_succ] at a0 a1 a2 a3 a4 a5 a6 a7 a8 a9 a10 a11 a12 a13
          have b0 := GB12.out.cell 0
          have b1 := GB12.out.cell 1
          have b2 := GB12.out.cell 2
          have b3 := GB12.out.cell 3
          have b4 := GB12.out.cell 4
          have b5 := GB12.out.cell 5
          have b6 := GB12.out.cell 6
          have b7 := GB12.out.cell 7
          have b8 := GB12.out.cell 8
          have b9 := GB12.out.cell 9
          have b10 := GB12.out.cell 10
          have b11 := GB12.out.cell 11
          have b12 := GB12.out.cell 12
          have b13 := GB12.out.cell 13
          simp only [List.getElem?_toArray, List.getElem?_cons_zero, List.getElem?_cons_succ] at b0 b1 b2 b3 b4 b5 b6 b7 b8 b9 b10 b11 b12 b13
          have hla := GA12.out.lt
          have hlb := GB12.out.lt
          have HK := Lib.hid (fun (X : World) (hf : Fr No w12 X) => (show X.cell? ⟨ga, 0, none⟩ = some (.slice AbC nbC kbC) ∧ X.cell? ⟨ga, 1, none⟩ = some (.slice AbG nbG kbG) ∧ X.cell? ⟨ga, 2, none⟩ = some (.slice AbU nbU kbU) ∧ X.cell? ⟨ga, 3, none⟩ = some (.slice A8 n8 k8) ∧ X.cell? ⟨ga, 4, none⟩ = some (.string ⟨r0.toArray⟩) ∧ X.cell? ⟨ga, 5, none⟩ = some (.string ⟨r1.toArray⟩) ∧ X.cell? ⟨ga, 6, none⟩ = some (.string ⟨r2.toArray⟩) ∧ X.cell? ⟨ga, 7, none⟩ = some (.string ⟨r3.toArray⟩) ∧ X.cell? ⟨ga, 8, none⟩ = some (.string ⟨r4.toArray⟩) ∧ X.cell? ⟨ga, 9, none⟩ = some (.string ⟨r5.toArray⟩) ∧ X.cell? ⟨ga, 10, none⟩ = some (.string ⟨r6.toArray⟩) ∧ X.cell? ⟨ga, 11, none⟩ = some (.string ⟨r7.toArray⟩) ∧ X.cell? ⟨ga, 12, none⟩ = some (.string ⟨r8.toArray⟩) ∧ X.cell? ⟨ga, 13, none⟩ = some (.string ⟨r9.toArray⟩) ∧ X.cell? ⟨gb, 0, none⟩ = some (.slice AbC nbC kbC) ∧ X.cell? ⟨gb, 1, none⟩ = some (.slice AbG nbG kbG) ∧ X.cell? ⟨gb, 2, none⟩ = some (.slice AbU nbU kbU) ∧ X.cell? ⟨gb, 3, none⟩ = some (.slice A11 (nbA + 1) k11) ∧ X.cell? ⟨gb, 4, none⟩ = some (.string ⟨r0.toArray⟩) ∧ X.cell? ⟨gb, 5, none⟩ = some (.string ⟨r1.toArray⟩) ∧ X.cell? ⟨gb, 6, none⟩ = some (.string ⟨r2.toArray⟩) ∧ X.cell? ⟨gb, 7, none⟩ = some (.string ⟨r3.toArray⟩) ∧ X.cell? ⟨gb, 8, none⟩ = some (.string ⟨r4.toArray⟩) ∧ X.cell? ⟨gb, 9, none⟩ = some (.string ⟨r5.toArray⟩) ∧ X.cell? ⟨gb, 10, none⟩ = some (.string ⟨r6.toArray⟩) ∧ X.cell? ⟨gb, 11, none⟩ = some (.string ⟨r7.toArray⟩) ∧ X.cell? ⟨gb, 12, none⟩ = some (.string ⟨r8.toArray⟩) ∧ X.cell? ⟨gb, 13, none⟩ = some (.string ⟨r9.toArray⟩) from ⟨(hf.cell (p := ⟨ga, 0, none⟩) hla (fun h => h)).trans a0, (hf.cell (p := ⟨ga, 1, none⟩) hla (fun h => h)).trans a1, (hf.cell (p := ⟨ga, 2, none⟩) hla (fun h => h)).trans a2, (hf.cell (p := ⟨ga, 3, none⟩) hla (fun h => h)).trans a3, (hf.cell (p := ⟨ga, 4, none⟩) hla (fun h => h)).trans a4, (hf.cell (p := ⟨ga, 5, none⟩) hla (fun h => h)).trans a5, (hf.cell (p := ⟨ga, 6, none⟩) hla (fun h => h)).trans a6, (hf.cell (p := ⟨ga, 7, none⟩) hla (fun h => h)).trans a7, (hf.cell (p := ⟨ga, 8, none⟩) hla (fun h => h)).trans a8, (hf.cell (p := ⟨ga, 9, none⟩) hla (fun h => h)).trans a9, (hf.cell (p := ⟨ga, 10, none⟩) hla (fun h => h)).trans a10, (hf.cell (p := ⟨ga, 11, none⟩) hla (fun h => h)).trans a11, (hf.cell (p := ⟨ga, 12, none⟩) hla (fun h => h)).trans a12, (hf.cell (p := ⟨ga, 13, none⟩) hla (fun h => h)).trans a13, (hf.cell (p := ⟨gb, 0, none⟩) hlb (fun h => h)).trans b0, (hf.cell (p := ⟨gb, 1, none⟩) hlb (fun h => h)).trans b1, (hf.cell (p := ⟨gb, 2, none⟩) hlb (fun h => h)).trans b2, (hf.cell (p := ⟨gb, 3, none⟩) hlb (fun h => h)).trans b3, (hf.cell (p := ⟨gb, 4, none⟩) hlb (fun h => h)).trans b4, (hf.cell (p := ⟨gb, 5, none⟩) hlb (fun h => h)).trans b5, (hf.cell (p := ⟨gb, 6, none⟩) hlb (fun h => h)).trans b6, (hf.cell (p := ⟨gb, 7, none⟩) hlb (fun h => h)).trans b7, (hf.cell (p := ⟨gb, 8, none⟩) hlb (fun h => h)).trans b8, (hf.cell (p := ⟨gb, 9, none⟩) hlb (fun h => h)).trans b9, (hf.cell (p := ⟨gb, 10, none⟩) hlb (fun h => h)).trans b10, (hf.cell (p := ⟨gb, 11, none⟩) hlb (fun h => h)).trans b11, (hf.cell (p := ⟨gb, 12, none⟩) hlb (fun h => h)).trans b12, (hf.cell (p := ⟨gb, 13, none⟩) hlb (fun h => h)).trans b13⟩))
          go_region_held3 (fun X => X.cell? ⟨ga, 0, none⟩ = some (.slice AbC nbC kbC) ∧ X.cell? ⟨ga, 1, none⟩ = some (.slice AbG nbG kbG) ∧ X.cell? ⟨ga, 2, none⟩ = some (.slice AbU nbU kbU) ∧ X.cell? ⟨ga, 3, none⟩ = some (.slice A8 n8 k8) ∧ X.cell? ⟨ga, 4, none⟩ = some (.string ⟨r0.toArray⟩) ∧ X.cell? ⟨ga, 5, none⟩ = some (.string ⟨r1.toArray⟩) ∧ X.cell? ⟨ga, 6, none⟩ = some (.string ⟨r2.toArray⟩) ∧ X.cell? ⟨ga, 7, none⟩ = some (.string ⟨r3.toArray⟩) ∧ X.cell? ⟨ga, 8, none⟩ = some (.string ⟨r4.toArray⟩) ∧ X.cell? ⟨ga, 9, none⟩ = some (.string ⟨r5.toArray⟩) ∧ X.cell? ⟨ga, 10, none⟩ = some (.string ⟨r6.toArray⟩) ∧ X.cell? ⟨ga, 11, none⟩ = some (.string ⟨r7.toArray⟩) ∧ X.cell? ⟨ga, 12, none⟩ = some (.string ⟨r8.toArray⟩) ∧ X.cell? ⟨ga, 13, none⟩ = some (.string ⟨r9.toArray⟩) ∧ X.cell? ⟨gb, 0, none⟩ = some (.slice AbC nbC kbC) ∧ X.cell? ⟨gb, 1, none⟩ = some (.slice AbG nbG kbG) ∧ X.cell? ⟨gb, 2, none⟩ = some (.slice AbU nbU kbU) ∧ X.cell? ⟨gb, 3, none⟩ = some (.slice A11 (nbA + 1) k11) ∧ X.cell? ⟨gb, 4, none⟩ = some (.string ⟨r0.toArray⟩) ∧ X.cell? ⟨gb, 5, none⟩ = some (.string ⟨r1.toArray⟩) ∧ X.cell? ⟨gb, 6, none⟩ = some (.string ⟨r2.toArray⟩) ∧ X.cell? ⟨gb, 7, none⟩ = some (.string ⟨r3.toArray⟩) ∧ X.cell? ⟨gb, 8, none⟩ = some (.string ⟨r4.toArray⟩) ∧ X.cell? ⟨gb, 9, none⟩ = some (.string ⟨r5.toArray⟩) ∧ X.cell? ⟨gb, 10, none⟩ = some (.string ⟨r6.toArray⟩) ∧ X.cell? ⟨gb, 11, none⟩ = some (.string ⟨r7.toArray⟩) ∧ X.cell? ⟨gb, 12, none⟩ = some (.string ⟨r8.toArray⟩) ∧ X.cell? ⟨gb, 13, none⟩ = some (.string ⟨r9.toArray⟩)) ((refine HK.out _ ?_; repeat' (first | with_reducible assumption | with_reducible exact Fr.refl _ _ | with_reducible refine Fr.drew ?_ | with_reducible refine Fr.alloc ?_ _))) (first | (go_at_call 9; with_reducible refine (HA.out _ (by repeat' (first | with_reducible assumption | with_reducible exact Fr.refl _ _ | with_reducible refine Fr.drew ?_ | with_reducible refine Fr.alloc ?_ _))).mono ?_; rintro e wa ⟨rfl, hf⟩; have hfa : Fr No w12 wa := (Fr.then_no (by repeat' (first | with_reducible assumption | with_reducible exact Fr.refl _ _ | with_reducible refine Fr.drew ?_ | with_reducible refine Fr.alloc ?_ _)) hf); clear hf) | (go_at_call 9; with_reducible refine (HB.out _ (by repeat' (first | with_reducible assumption | with_reducible exact Fr.refl _ _ | with_reducible refine Fr.drew ?_ | with_reducible refine Fr.alloc ?_ _))).mono ?_; rintro e wb ⟨rfl, hf⟩; have hfb : Fr No w12 wb := (Fr.then_no (by repeat' (first | with_reducible assumption | with_reducible exact Fr.refl _ _ | with_reducible refine Fr.drew ?_ | with_reducible refine Fr.alloc ?_ _)) hf); clear hf))
          all_goals
            go_wp2_with fail
            go_meet
            case rel => exact ⟨rfl, rfl, Lib.hid (by repeat' (first | with_reducible assumption | with_reducible exact Fr.refl _ _ | with_reducible refine Fr.drew ?_ | with_reducible refine Fr.alloc ?_ _))⟩
        case rest =>
          obtain ⟨rfl, rfl, D13⟩ := hcut
          have e1 : lva = if fit = true then n else was := by
            rw [← HLA.out, ← HWAS.out, HACC.out]
            have h := level_ahead (ya, yb, n) acc user console
            rw [show accP user console (ya, yb, n) = fit from HFIT.out] at h
            exact h
          have e2 : lvb = was ∨ (fit = true ∧ was = 0 ∧ lvb = n) := by
            rw [← HLB.out, ← HWAS.out, HACC.out]
            rcases level_behind (ya, yb, n) acc user console with h | h
            · exact .inl h.1
            · obtain ⟨h0, h1⟩ := h
              rw [show accP user console (ya, yb, n) = fit from HFIT.out] at h1
              cases hf : fit
              · rw [hf] at h1; exact .inl (by rw [h1, h0]; rfl)
              · rw [hf] at h1; exact .inr ⟨rfl, h0, h1⟩
          have X13 := Lib.hid (X12.out.fr D13.out (fun h => h))
          have F13 := Lib.hid (F12.out.then_no D13.out)
          clear B12 X12 GA12 GB12 F12 Y12 YA12 HS12 OA12 OB12 NA12 NB12 QA QB HA HB D13 HLA HLB HWAS HACC HFIT HXO
          have x2c := X13.out.cell 2
          simp only [List.getElem?_toArray, List.getElem?_cons_zero, List.getElem?_cons_succ] at x2c
          obtain ⟨w13, hw13⟩ : ∃ w13, w13 = wc := ⟨_, rfl⟩
          subst hw13
          rcases e2 with e2 | ⟨ef, e0, e3⟩
          · subst e2
            cases fit
            · replace e1 : lva = lvb := e1
              subst e1
              go_wp2_with fail
              refine (works_any _).mono ?_
              rintro e w14 ⟨rfl, hf⟩
              go_wp2_with fail
              go_ret
              exact ⟨rfl, F13.out.then_no hf⟩
            · replace e1 : lva = n := e1
              subst e1
              go_wp2_with fail
              refine (works_any _).mono ?_
              rintro e w14 ⟨rfl, hf⟩
              go_wp2_with fail
              go_ret
              exact ⟨rfl, F13.out.then_no hf⟩
          · subst ef
            subst e3
            replace e1 : lva = lvb := e1
            subst e1
            subst e0
            by_cases hz : lva = 0
            · subst hz
              go_wp2_with fail
              refine (works_any _).mono ?_
              rintro e w14 ⟨rfl, hf⟩
              go_wp2_with fail
              go_ret
              exact ⟨rfl, F13.out.then_no hf⟩
            · have hz' : (lva == 0) = false := by simpa using hz
              go_wp2_with fail
              refine (works_any _).mono ?_
              rintro e w14 ⟨rfl, hf⟩
              go_wp2_with fail
              go_ret
              exact ⟨rfl, F13.out.then_no hf⟩
end Conf
end Go.Proofs.Ytompphakagoaeaa
