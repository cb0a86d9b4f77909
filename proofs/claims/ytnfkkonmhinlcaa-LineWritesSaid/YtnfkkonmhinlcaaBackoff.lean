/- Contracts of package backoff and of its reference. -/
import Derived.Test.YtnfkkonmhinlcaaCalc
import Derived.Test.YtnfkkonmhinlcaaOwn
import Derived.BigGuardPart
import Derived.RegionTactic
import Derived.Deep.RegionHeld3
namespace Go.Proofs.Ytnfkkonmhinlcaa
open Go.RowKit
set_option linter.unusedVariables false
set_option linter.unusedSimpArgs false
namespace Backoff
open Calc
def ok (b c j : Int) : Bool := decide (1 ≤ b ∧ b ≤ 3600 ∧ b ≤ c ∧ c ≤ 86400 ∧ 0 ≤ j ∧ j ≤ 3600)
theorem ok_iff {b c j : Int} : ok b c j = true ↔ 1 ≤ b ∧ b ≤ 3600 ∧ b ≤ c ∧ c ≤ 86400 ∧ 0 ≤ j ∧ j ≤ 3600 := by simp [ok]
def code (b c j : Int) : Int := if ok b c j then 0 else 2
theorem code_yes {b c j : Int} (h : ok b c j = true) : code b c j = 0 := by simp [code, h]
theorem code_no {b c j : Int} (h : ok b c j = false) : code b c j = 2 := by simp [code, h]
theorem ways (b c j : Int) : (b < 1 ∧ code b c j = 2) ∨ (1 ≤ b ∧ 3600 < b ∧ code b c j = 2) ∨ (1 ≤ b ∧ b ≤ 3600 ∧ c < b ∧ code b c j = 2) ∨ (1 ≤ b ∧ b ≤ 3600 ∧ b ≤ c ∧ 86400 < c ∧ code b c j = 2) ∨
    (1 ≤ b ∧ b ≤ 3600 ∧ b ≤ c ∧ c ≤ 86400 ∧ j < 0 ∧ code b c j = 2) ∨ (1 ≤ b ∧ b ≤ 3600 ∧ b ≤ c ∧ c ≤ 86400 ∧ 0 ≤ j ∧ 3600 < j ∧ code b c j = 2) ∨ (1 ≤ b ∧ b ≤ 3600 ∧ b ≤ c ∧ c ≤ 86400 ∧ 0 ≤ j ∧ j ≤ 3600 ∧ code b c j = 0) := by
  cases h : ok b c j
  · rw [code_no h]
    have : ¬ (1 ≤ b ∧ b ≤ 3600 ∧ b ≤ c ∧ c ≤ 86400 ∧ 0 ≤ j ∧ j ≤ 3600) := fun hh => by rw [ok_iff.2 hh] at h; cases h
    omega
  · rw [code_yes h]
    have := ok_iff.1 h
    omega
theorem check_any (b c j : Int) (w : World) : Calls Try.prog 50 #[.agg #[.int .i64 b, .int .i64 c, .int .i64 j]] w fun e w' => e = .returned (.int .i64 (code b c j)) ∧ Fr No w w' := by
  rcases ways b c j with ⟨h1, h⟩ | ⟨h1, h2, h⟩ | ⟨h1, h2, h3, h⟩ | ⟨h1, h2, h3, h4, h⟩ | ⟨h1, h2, h3, h4, h5, h⟩ | ⟨h1, h2, h3, h4, h5, h6, h⟩ | ⟨h1, h2, h3, h4, h5, h6, h⟩
  all_goals
    have H := Lib.hid h
    clear h
    go_enter Try.func50, Try.ntmps50
    go_wp2
    all_goals first
      | (exfalso; omega)
      | (go_ret; exact ⟨ret_int H.out.symm, (Fr.refl _ _).alloc _⟩)
theorem rcheck_any (b c j : Int) (w : World) : Calls Try.prog 37 #[.int .i64 b, .int .i64 c, .int .i64 j] w fun e w' => e = .returned (.int .i64 (code b c j)) ∧ w = w' := by
  rcases ways b c j with ⟨h1, h⟩ | ⟨h1, h2, h⟩ | ⟨h1, h2, h3, h⟩ | ⟨h1, h2, h3, h4, h⟩ | ⟨h1, h2, h3, h4, h5, h⟩ | ⟨h1, h2, h3, h4, h5, h6, h⟩ | ⟨h1, h2, h3, h4, h5, h6, h⟩
  all_goals
    have H := Lib.hid h
    clear h
    go_enter Try.func37, Try.ntmps37
    go_wp2
    all_goals first
      | (exfalso; omega)
      | (go_ret; exact ⟨ret_int H.out.symm, rfl⟩)
def WAt (w : World) (g : Nat) (b c j n : Int) : Prop := Blk w g 91 #[.int .i64 b, .int .i64 c, .int .i64 j, .int .i64 n] ∧ ok b c j = true ∧ 0 ≤ n ∧ n ≤ 1000000
theorem new_no (b c j : Int) (w : World) (h : ok b c j = false) : Calls Try.prog 27 #[.agg #[.int .i64 b, .int .i64 c, .int .i64 j]] w fun e w' => e = .returned (.tuple #[.pointer none, .int .i64 2]) ∧ Fr No w w' := by
  have H := Lib.hid (code_no h)
  clear h
  go_enter Try.func27, Try.ntmps27
  go_wp2_with (go_at_call 50; refine (check_any _ _ _ _).mono ?_; rintro e w1 ⟨rfl, hf⟩; rw [H.out]; have Hf := Lib.hid hf; clear hf)
  go_ret2
  exact ⟨rfl, ((Fr.refl _ _).alloc _).then_no Hf.out⟩
theorem new_yes (b c j : Int) (w : World) (h : ok b c j = true) : Calls Try.prog 27 #[.agg #[.int .i64 b, .int .i64 c, .int .i64 j]] w fun e w' => ∃ g, e = .returned (.tuple #[.pointer (some ⟨g, 0, none⟩), .int .i64 0]) ∧ WAt w' g b c j 0 ∧ w.heap.size ≤ g ∧ Fr No w w' := by
  have H := Lib.hid (code_yes h)
  have Hk := Lib.hid h
  clear h
  go_enter Try.func27, Try.ntmps27
  go_wp2_with (go_at_call 50; go_loud (refine (check_any _ _ _ _).mono ?_; rintro e w1 ⟨rfl, hf⟩; rw [H.out]; have hb := Blk.fr (Blk.new w 75 #[.int .i64 b, .int .i64 c, .int .i64 j]) hf (fun h => h); have c0 := hb.cell 0; have c1 := hb.cell 1; have c2 := hb.cell 2; simp at c0 c1 c2; have Hf := Lib.hid hf; clear hf hb))
  go_ret2
  exact ⟨w1.heap.size, rfl, ⟨Blk.new _ _ _, Hk.out, by omega, by omega⟩, by have := Hf.out.size; simp at this; omega, (((Fr.refl _ _).alloc _).then_no Hf.out).alloc _⟩
section
variable {w : World} {g : Nat} {b c j n : Int}
theorem WAt.fr {w' : World} {F : Nat → Prop} (h : WAt w g b c j n) (hf : Fr F w w') (hn : ¬ F g) : WAt w' g b c j n := ⟨h.1.fr hf hn, h.2⟩
theorem made_any (h : WAt w g b c j n) : Calls Try.prog 47 #[.pointer (some ⟨g, 0, none⟩)] w fun e w' => e = .returned (.bool true) ∧ w = w' := by
  obtain ⟨h1, h2, h3, h4⟩ := h
  have hb := (ok_iff.1 h2).1
  have c0 := h1.cell 0
  have c1 := h1.cell 1
  have c2 := h1.cell 2
  simp at c0 c1 c2
  have b0 : (b == 0) = false := by simp; omega
  clear h1 h2
  go_enter Try.func47, Try.ntmps47
  go_wp2
  go_ret
  exact ⟨rfl, rfl⟩
def lowOf (b c : Int) (n : Nat) : Int := dbl c n b
theorem bounds_any (b c j n : Int) (w : World) (hk : ok b c j = true) (h3 : 0 ≤ n) (h4 : n ≤ 1000000) : Calls Try.prog 68 #[.agg #[.int .i64 b, .int .i64 c, .int .i64 j], .int .i64 n] w fun e w' => e = .returned (.tuple #[.int .i64 (lowOf b c n.toNat), .int .i64 (lowOf b c n.toNat + j)]) ∧ Fr No w w' := by
  obtain ⟨k1, k2, k3, k4, k5, k6⟩ := ok_iff.1 hk
  have hd := Lib.hid (dblR_yes (dblOk_iff.2 ⟨show 0 ≤ b by omega, k3, by omega, h3⟩))
  obtain ⟨l1, l2⟩ := dbl_in c n.toNat b (by omega) k3
  obtain ⟨x, hx⟩ : ∃ x, lowOf b c n.toNat = x := ⟨_, rfl⟩
  have hx' : dbl c n.toNat b = x := hx
  rw [hx'] at l1 l2 hd
  rw [hx]
  clear hx hx' hk
  by_cases hn0 : n = 0
  · subst hn0
    go_enter Try.func68, Try.ntmps68
    go_wp2_with (go_at_call 80; go_loud (refine (double_any _ _ _ _ (by unfold I64; omega)).mono ?_; rintro e w' ⟨rfl, rfl⟩; rw [hd.out]; simp only [pair]))
    go_quiet (fail)
    go_wp2
    go_ret2
    exact ⟨rfl, ((Fr.refl _ _).alloc _).drewN _⟩
  · have hn1 : 0 < n := by omega
    clear hn0
    go_enter Try.func68, Try.ntmps68
    go_wp2_with (go_at_call 80; go_loud (refine (double_any _ _ _ _ (by unfold I64; omega)).mono ?_; rintro e w' ⟨rfl, rfl⟩; rw [hd.out]; simp only [pair]))
    go_quiet (fail)
    go_wp2
    go_ret2
    exact ⟨rfl, ((Fr.refl _ _).alloc _).drewN _⟩
theorem tmod_add (r m : Int) (h : 0 < m) : (r.tmod m + m) % m = r % m := by
  rw [Int.add_emod_right, Int.tmod_eq_emod]
  split
  · simp
  · rw [show ((m.natAbs : Nat) : Int) = m by omega]; simp [Int.sub_emod]
theorem more_any (r m : Int) (w : World) (h1 : 1 ≤ m) (h2 : m ≤ 3601) (hr : I64 r) : Calls Try.prog 70 #[.int .i64 r, .int .i64 m] w fun e w' => e = .returned (.int .i64 (r % m)) ∧ w = w' := by
  obtain ⟨r1, r2⟩ := hr
  have hz : (m == 0) = false := by simp; omega
  have e1 : 0 ≤ r.tmod m + m := by
    have := Int.lt_tmod_of_pos r (show 0 < m by omega)
    omega
  have e2 : r.tmod m < m := Int.tmod_lt_of_pos r (by omega)
  have e3 : (r.tmod m + m) % m = r % m := tmod_add r m (by omega)
  go_enter Try.func70, Try.ntmps70
  go_wp2
  go_ret
  exact ⟨ret_int e3, rfl⟩
def at_ (b c j n now r : Int) : Int × Int := addR now (lowOf b c n.toNat + r % (j + 1))
def upN (b c j n now r : Int) : Int := if (at_ b c j n now r).2 = 0 then n + 1 else n
theorem addR_err {a b : Int} (h : (addR a b).2 ≠ 0) : (addR a b).1 = 0 := by
  unfold addR at *
  split <;> (try split) <;> simp_all
theorem low_in {b c j n : Int} (hk : ok b c j = true) : 1 ≤ lowOf b c n.toNat ∧ b ≤ lowOf b c n.toNat ∧ lowOf b c n.toNat ≤ c := by
  obtain ⟨k1, k2, k3, k4, k5, k6⟩ := ok_iff.1 hk
  obtain ⟨l1, l2⟩ := dbl_in c n.toNat b (by omega) k3
  exact ⟨by unfold lowOf; omega, l1, l2⟩
theorem fail_arg (h : WAt w g b c j n) (now r : Int) (hn : isT now = false) : Calls Try.prog 54 #[.pointer (some ⟨g, 0, none⟩), .int .i64 now, .int .i64 r] w fun e w' => e = .returned (.tuple #[.int .i64 0, .int .i64 1]) ∧ w = w' := by
  have H := Lib.hid h
  clear h
  go_enter Try.func54, Try.ntmps54
  go_wp2_with (first
    | (go_at_call 47; refine (made_any H.out).mono ?_; rintro e w' ⟨rfl, rfl⟩)
    | (go_at_call 53; refine (is_any _ _).mono ?_; rintro e w' ⟨rfl, rfl⟩))
  go_ret2
  exact ⟨rfl, rfl⟩
set_option maxHeartbeats 800000 in
theorem fail_any (h : WAt w g b c j n) (now r : Int) (hn : isT now = true) (hr : I64 r) : Calls Try.prog 54 #[.pointer (some ⟨g, 0, none⟩), .int .i64 now, .int .i64 r] w fun e w' =>
    e = .returned (pair (at_ b c j n now r)) ∧ Fr (fun k => k = g) w w' ∧ (n < 1000000 → WAt w' g b c j (upN b c j n now r)) := by
  have H := Lib.hid h
  obtain ⟨h1, hk, h3, h4⟩ := h
  obtain ⟨k1, k2, k3, k4, k5, k6⟩ := ok_iff.1 hk
  obtain ⟨l1, l2, l3⟩ := low_in (n := n) hk
  have m1 : 0 ≤ r % (j + 1) := Int.emod_nonneg _ (by omega)
  have m2 : r % (j + 1) < j + 1 := Int.emod_lt_of_pos _ (by omega)
  have c0 := h1.cell 0
  have c1 := h1.cell 1
  have c2 := h1.cell 2
  have c3 := h1.cell 3
  have f3 := h1.frozen 3
  simp at c0 c1 c2 c3
  have H1 := Lib.hid h1
  have Hk := Lib.hid hk
  obtain ⟨x, hx⟩ : ∃ x, lowOf b c n.toNat = x := ⟨_, rfl⟩
  obtain ⟨y, hy⟩ : ∃ y, r % (j + 1) = y := ⟨_, rfl⟩
  have hat := Lib.hid (show at_ b c j n now r = addR now (x + y) by unfold at_; rw [hx, hy])
  rw [hx] at l1 l2 l3
  rw [hy] at m1 m2
  have Hx := Lib.hid hx
  have Hy := Lib.hid hy
  clear h1 hk hx hy
  by_cases ha : (addR now (x + y)).2 = 0
  all_goals
    have Ha := Lib.hid ha
    have ha' : ((addR now (x + y)).2 != 0) = !decide ((addR now (x + y)).2 = 0) := by simp [bne]; rfl
    first | rw [decide_eq_true ha] at ha' | rw [decide_eq_false ha] at ha'
    clear ha
    go_enter Try.func54, Try.ntmps54
    go_wp2_with (first
      | (go_at_call 47; refine (made_any H.out).mono ?_; rintro e w' ⟨rfl, rfl⟩)
      | (go_at_call 53; refine (is_any _ _).mono ?_; rintro e w' ⟨rfl, rfl⟩)
      | (go_at_call 68; refine (bounds_any _ _ _ _ _ Hk.out h3 h4).mono ?_; rintro e w' ⟨rfl, hf⟩; rw [Hx.out]))
    go_region_held3 (fun w' => w'.cell? ⟨g, 0, none⟩ = some (.int .i64 b) ∧ w'.cell? ⟨g, 1, none⟩ = some (.int .i64 c) ∧ w'.cell? ⟨g, 2, none⟩ = some (.int .i64 j) ∧ w'.cell? ⟨g, 3, none⟩ = some (.int .i64 n)) (go_keep) (first
      | (go_at_call 68; go_loud (refine (bounds_any _ _ _ _ _ Hk.out h3 h4).mono ?_; rintro e w1 ⟨rfl, hf⟩; rw [Hx.out]; have hb := Blk.fr (w := w) H1.out (((Fr.refl No w).drew).then_no hf) (fun h => h); have d0 := hb.cell 0; have d1 := hb.cell 1; have d2 := hb.cell 2; have d3 := hb.cell 3; have e3 := hb.frozen 3; simp at d0 d1 d2 d3; have Hf := Lib.hid hf; have Hb := Lib.hid hb; clear hf hb)))
    go_wp2_with (first
      | (go_at_call 70; go_loud (refine (more_any _ _ _ (by omega) (by omega) hr).mono ?_; rintro e w' ⟨rfl, rfl⟩; rw [Hy.out]))
      | (go_at_call 69; go_loud (refine (add_any _ _ _).mono ?_; rintro e w' ⟨rfl, rfl⟩; simp only [pair])))
    all_goals
      go_ret2
      have hfr : Fr (fun k => k = g) w w1 := ((Fr.refl (fun k => k = g) w).drew).then_no Hf.out
      have hat' := hat.out
      first
        | (have ha := Ha.out
           have he : at_ b c j n now r = ((addR now (x + y)).1, 0) := by rw [hat', ← ha]
           refine ⟨pair_eq he, hfr.setCell (p := ⟨g, 3, none⟩) (.inl rfl) _, fun hn => ⟨?_, Hk.out, ?_, ?_⟩⟩
           · have hu : upN b c j n now r = n + 1 := by unfold upN; rw [he]; rfl
             rw [hu]
             simpa using Hb.out.put 3 (.int .i64 (n + 1))
           · unfold upN; split <;> omega
           · unfold upN; split <;> omega)
        | (have ha := Ha.out
           have he : at_ b c j n now r = (0, (addR now (x + y)).2) := by rw [hat', ← addR_err ha]
           refine ⟨pair_eq he, hfr, fun hn => ?_⟩
           have hu : upN b c j n now r = n := by unfold upN; rw [he]; exact if_neg ha
           rw [hu]
           exact ⟨Hb.out, Hk.out, h3, h4⟩)
theorem good_any (h : WAt w g b c j n) : Calls Try.prog 31 #[.pointer (some ⟨g, 0, none⟩)] w fun e w' => e = .returned (.tuple #[]) ∧ WAt w' g b c j 0 ∧ Fr (fun k => k = g) w w' := by
  have H := Lib.hid h
  obtain ⟨h1, hk, h3, h4⟩ := h
  have c3 := h1.cell 3
  have f3 := h1.frozen 3
  simp at c3
  have H1 := Lib.hid h1
  have Hk := Lib.hid hk
  clear h1 hk
  go_enter Try.func31, Try.ntmps31
  go_wp2_with (go_at_call 47; refine (made_any H.out).mono ?_; rintro e w' ⟨rfl, rfl⟩)
  go_end0
  refine ⟨rfl, ⟨by simpa using H1.out.put 3 (.int .i64 0), Hk.out, by omega, by omega⟩, Fr.setCell (F := fun k => k = g) (Fr.refl _ _) (p := ⟨g, 3, none⟩) (.inl rfl) _⟩
theorem tries_any (h : WAt w g b c j n) : Calls Try.prog 21 #[.pointer (some ⟨g, 0, none⟩)] w fun e w' => e = .returned (.int .i64 n) ∧ w = w' := by
  have H := Lib.hid h
  obtain ⟨h1, hk, h3, h4⟩ := h
  have c3 := h1.cell 3
  simp at c3
  clear h1 hk
  go_enter Try.func21, Try.ntmps21
  go_wp2_with (go_at_call 47; refine (made_any H.out).mono ?_; rintro e w' ⟨rfl, rfl⟩)
  go_ret
  exact ⟨rfl, rfl⟩
theorem rlow_any (b c n : Int) (w : World) (hn : I64 n) : Calls Try.prog 23 #[.int .i64 b, .int .i64 c, .int .i64 n] w fun e w' => e = .returned (.int .i64 (dblR b n c).1) ∧ w = w' := by
  go_enter Try.func23, Try.ntmps23
  go_wp2_with (go_at_call 49; refine (rdouble_any _ _ _ _ hn).mono ?_; rintro e w' ⟨rfl, rfl⟩; simp only [pair])
  go_ret
  exact ⟨rfl, rfl⟩
theorem rat_any (b c j n now r : Int) (w : World) (hk : ok b c j = true) (h3 : 0 ≤ n) (h4 : n ≤ 1000000) (hn : isT now = true) (hr : I64 r) : Calls Try.prog 72 #[.int .i64 b, .int .i64 c, .int .i64 j, .int .i64 n, .int .i64 now, .int .i64 r] w fun e w' =>
    e = .returned (.tuple #[.int .i64 (now + (lowOf b c n.toNat + r % (j + 1))), .bool (decide (now + (lowOf b c n.toNat + r % (j + 1)) ≤ 1099511627776))]) ∧ w = w' := by
  obtain ⟨k1, k2, k3, k4, k5, k6⟩ := ok_iff.1 hk
  obtain ⟨l1, l2, l3⟩ := low_in (n := n) hk
  obtain ⟨t1, t2⟩ := isT_iff.1 hn
  obtain ⟨r1, r2⟩ := hr
  have hlow := Lib.hid (show (dblR b n c).1 = lowOf b c n.toNat by rw [dblR_yes (dblOk_iff.2 ⟨by omega, k3, by omega, h3⟩)]; rfl)
  obtain ⟨x, hx⟩ : ∃ x, lowOf b c n.toNat = x := ⟨_, rfl⟩
  rw [hx] at hlow l1 l2 l3 ⊢
  clear hx
  have hz : (j + 1 == 0) = false := by simp; omega
  have e1 := Int.lt_tmod_of_pos r (show 0 < j + 1 by omega)
  have e2 := Int.tmod_lt_of_pos r (show 0 < j + 1 by omega)
  have e3 : r % (j + 1) = if r.tmod (j + 1) < 0 then r.tmod (j + 1) + j + 1 else r.tmod (j + 1) := by
    have h0 := tmod_add r (j + 1) (by omega)
    rw [← h0]
    split
    · rw [Int.emod_eq_of_lt (by omega) (by omega)]; omega
    · rw [Int.add_emod_right, Int.emod_eq_of_lt (by omega) (by omega)]
  have E3 := Lib.hid e3
  clear e3 hk hn
  by_cases hneg : r.tmod (j + 1) < 0
  all_goals
    go_enter Try.func72, Try.ntmps72
    go_wp2_with (go_at_call 23; refine (rlow_any _ _ _ _ (by unfold I64; omega)).mono ?_; rintro e w' ⟨rfl, rfl⟩; rw [hlow.out])
    go_ret2
    have e4 := E3.out
    refine ⟨ret_ib ?_ ?_, rfl⟩
    · first | rw [if_pos hneg] at e4 | rw [if_neg (by omega)] at e4
      rw [e4]; omega
    · first | rw [if_pos hneg] at e4 | rw [if_neg (by omega)] at e4
      rw [e4]; refine decide_eq_decide.2 ?_; omega
end
end Backoff
end Go.Proofs.Ytnfkkonmhinlcaa
