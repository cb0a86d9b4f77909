/- The walks of the laws of package backoff. -/
import Derived.Test.YtckgkeicilcnmaaBackoff
namespace Go.Proofs.Ytckgkeicilcnmaa
open Go.RowKit
set_option linter.unusedVariables false
set_option linter.unusedSimpArgs false
namespace Backoff
open Calc
theorem q1 : at_ 2 10 3 0 100 0 = (102, 0) := by decide +kernel
theorem q2 : at_ 2 10 3 1 100 5 = (105, 0) := by decide +kernel
theorem q3 : at_ 2 10 3 2 100 (-1) = (111, 0) := by decide +kernel
theorem q4 : at_ 2 10 3 3 100 2 = (112, 0) := by decide +kernel
theorem q5 : at_ 2 10 3 4 1099511627776 0 = (0, 2) := by decide +kernel
theorem u1 : upN 2 10 3 0 100 0 = 1 := by decide +kernel
theorem u2 : upN 2 10 3 1 100 5 = 2 := by decide +kernel
theorem u3 : upN 2 10 3 2 100 (-1) = 3 := by decide +kernel
theorem u4 : upN 2 10 3 3 100 2 = 4 := by decide +kernel
theorem u5 : upN 2 10 3 4 1099511627776 0 = 4 := by decide +kernel
theorem l1 : lowOf 2 10 (1 : Int).toNat = 4 := by decide +kernel
set_option maxHeartbeats 1000000 in
theorem works_any (w : World) : Calls Try.prog 32 #[] w fun e w' => e = .returned (.bool true) ∧ Fr No w w' := by
  go_enter Try.func32, Try.ntmps32
  go_wp2_with fail
  refine (new_yes 2 10 3 _ (by decide)).mono ?_
  rintro e w1 ⟨g, rfl, hw, hg, hf⟩
  have W0 := Lib.hid hw; have F0 := Lib.hid hf; clear hw hf
  go_wp2_with fail
  refine (new_no 0 0 0 _ (by decide)).mono ?_
  rintro e w2 ⟨rfl, hf⟩
  have F1 := Lib.hid hf; have W1 := Lib.hid (W0.out.fr hf (fun h => h)); clear hf
  go_wp2_with fail
  refine (fail_any W1.out 100 0 (by decide) (by unfold I64; omega)).mono ?_
  rintro e w3 ⟨rfl, hf, hn⟩
  have W2 := Lib.hid (hn (by decide)); have F2 := Lib.hid hf; clear hn hf
  rw [q1]; rw [u1] at W2; simp only [pair]
  go_wp2_with fail
  refine (fail_any W2.out 100 5 (by decide) (by unfold I64; omega)).mono ?_
  rintro e w4 ⟨rfl, hf, hn⟩
  have W3 := Lib.hid (hn (by decide)); have F3 := Lib.hid hf; clear hn hf
  rw [q2]; rw [u2] at W3; simp only [pair]
  go_wp2_with fail
  refine (fail_any W3.out 100 (-1) (by decide) (by unfold I64; omega)).mono ?_
  rintro e w5 ⟨rfl, hf, hn⟩
  have W4 := Lib.hid (hn (by decide)); have F4 := Lib.hid hf; clear hn hf
  rw [q3]; rw [u3] at W4; simp only [pair]
  go_wp2_with fail
  refine (fail_any W4.out 100 2 (by decide) (by unfold I64; omega)).mono ?_
  rintro e w6 ⟨rfl, hf, hn⟩
  have W5 := Lib.hid (hn (by decide)); have F5 := Lib.hid hf; clear hn hf
  rw [q4]; rw [u4] at W5; simp only [pair]
  go_wp2_with fail
  refine (fail_arg W5.out (-1) 0 (by decide)).mono ?_
  rintro e w7 ⟨rfl, rfl⟩
  go_wp2_with fail
  refine (fail_any W5.out 1099511627776 0 (by decide) (by unfold I64; omega)).mono ?_
  rintro e w7 ⟨rfl, hf, hn⟩
  have W6 := Lib.hid (hn (by decide)); have F6 := Lib.hid hf; clear hn hf
  rw [q5]; rw [u5] at W6; simp only [pair]
  go_wp2_with fail
  refine (tries_any W6.out).mono ?_
  rintro e w8 ⟨rfl, rfl⟩
  go_wp2_with fail
  refine (good_any W6.out).mono ?_
  rintro e w8 ⟨rfl, hw, hf⟩
  have F7 := Lib.hid hf; have c0 := hw.1.cell 0; have c1 := hw.1.cell 1; have c2 := hw.1.cell 2; simp at c0 c1 c2; have W7 := Lib.hid hw; clear hf hw
  go_wp2_with fail
  refine (bounds_any 2 10 3 1 _ (by decide) (by omega) (by omega)).mono ?_
  rintro e w9 ⟨rfl, hf⟩
  have F8 := Lib.hid hf; have W8 := Lib.hid (W7.out.fr hf (fun h => h)); clear hf
  rw [l1]
  go_wp2_with fail
  refine (tries_any W8.out).mono ?_
  rintro e w10 ⟨rfl, rfl⟩
  go_wp2_with fail
  go_ret
  refine ⟨rfl, ?_⟩
  have a : Fr (fun k => k = g) w1 w9 := (((((((F1.out.no _).trans F2.out (fun _ h _ => h)).trans F3.out (fun _ h _ => h)).trans F4.out (fun _ h _ => h)).trans F5.out (fun _ h _ => h)).trans F6.out (fun _ h _ => h)).trans F7.out (fun _ h _ => h)).then_no F8.out
  exact F0.out.trans a fun k hk hl => by subst hk; omega
theorem at_cases {b c j n now r : Int} (hk : ok b c j = true) (hn : isT now = true) : (now + (lowOf b c n.toNat + r % (j + 1)) ≤ 1099511627776 ∧ at_ b c j n now r = (now + (lowOf b c n.toNat + r % (j + 1)), 0) ∧ upN b c j n now r = n + 1) ∨
    (¬ now + (lowOf b c n.toNat + r % (j + 1)) ≤ 1099511627776 ∧ at_ b c j n now r = (0, 2) ∧ upN b c j n now r = n) := by
  obtain ⟨k1, k2, k3, k4, k5, k6⟩ := ok_iff.1 hk
  obtain ⟨l1, l2, l3⟩ := low_in (n := n) hk
  have m1 : 0 ≤ r % (j + 1) := Int.emod_nonneg _ (by omega)
  have m2 : r % (j + 1) < j + 1 := Int.emod_lt_of_pos _ (by omega)
  obtain ⟨t1, t2⟩ := isT_iff.1 hn
  have hX : isT (lowOf b c n.toNat + r % (j + 1)) = true := isT_iff.2 ⟨by omega, by omega⟩
  unfold upN at_ addR
  rw [hn, hX, show (true && true) = true from rfl, if_pos rfl]
  by_cases h : now + (lowOf b c n.toNat + r % (j + 1)) ≤ 1099511627776
  · left; rw [if_pos (by omega)]; exact ⟨h, rfl, rfl⟩
  · right; rw [if_neg (by omega)]; exact ⟨h, rfl, rfl⟩
theorem lowOf_mono {b c : Int} {j : Int} (hk : ok b c j = true) (k : Nat) : lowOf b c k ≤ lowOf b c (k + 1) := by
  obtain ⟨k1, k2, k3, k4, k5, k6⟩ := ok_iff.1 hk
  obtain ⟨l1, l2⟩ := dbl_in c k b (by omega) k3
  unfold lowOf
  rw [dbl_succ]
  omega
set_option maxHeartbeats 2000000 in
set_option maxRecDepth 100000 in
theorem bounds_law (b c j n now r : Int) (w : World) (hnow : 0 ≤ now ∧ now ≤ 4294967295) (hr : I64 r) : Calls Try.prog 9 #[.agg #[.int .i64 b, .int .i64 c, .int .i64 j], .int .i64 n, .int .u32 now, .int .i64 r] w fun e w' => e = .returned (.bool true) ∧ Fr No w w' := by
  obtain ⟨n1, n2⟩ := hnow
  cases hk : ok b c j
  · have Hc := Lib.hid (code_no hk)
    clear hk
    go_enter Try.func9, Try.ntmps9
    go_wp2_with (first
      | (go_at_call 35; refine (check_any _ _ _ _).mono ?_; rintro e w1 ⟨rfl, hf⟩; rw [Hc.out]; have F1 := Lib.hid hf; clear hf)
      | (go_at_call 32; refine (works_any _).mono ?_; rintro e w' ⟨rfl, hf⟩; have Hf := Lib.hid hf; clear hf))
    go_ret
    exact ⟨rfl, (((Fr.refl _ _).alloc _).then_no F1.out).then_no Hf.out⟩
  · have Hc := Lib.hid (code_yes hk)
    have Hk := Lib.hid hk
    by_cases hn : n < 0
    · clear hk
      go_enter Try.func9, Try.ntmps9
      go_wp2_with (first
        | (go_at_call 35; refine (check_any _ _ _ _).mono ?_; rintro e w1 ⟨rfl, hf⟩; rw [Hc.out]; have F1 := Lib.hid hf; clear hf)
        | (go_at_call 32; refine (works_any _).mono ?_; rintro e w' ⟨rfl, hf⟩; have Hf := Lib.hid hf; clear hf))
      go_ret
      exact ⟨rfl, (((Fr.refl _ _).alloc _).then_no F1.out).then_no Hf.out⟩
    · by_cases hn2 : 100 < n
      · clear hk
        go_enter Try.func9, Try.ntmps9
        go_wp2_with (first
          | (go_at_call 35; refine (check_any _ _ _ _).mono ?_; rintro e w1 ⟨rfl, hf⟩; rw [Hc.out]; have F1 := Lib.hid hf; clear hf)
          | (go_at_call 32; refine (works_any _).mono ?_; rintro e w' ⟨rfl, hf⟩; have Hf := Lib.hid hf; clear hf))
        go_ret
        exact ⟨rfl, (((Fr.refl _ _).alloc _).then_no F1.out).then_no Hf.out⟩
      · obtain ⟨k1, k2, k3, k4, k5, k6⟩ := ok_iff.1 hk
        clear hk
        go_enter Try.func9, Try.ntmps9
        go_wp2_with (first
          | (go_at_call 35; go_loud (refine (check_any _ _ _ _).mono ?_; rintro e w1 ⟨rfl, hf⟩; rw [Hc.out]; have hb := Blk.fr (Blk.new w 46 #[.int .i64 b, .int .i64 c, .int .i64 j]) hf (fun h => h); have c0 := hb.cell 0; have c1 := hb.cell 1; have c2 := hb.cell 2; simp at c0 c1 c2; have F1 := Lib.hid hf; have B1 := Lib.hid hb; clear hf hb))
          | (go_at_call 33; go_loud (refine (new_yes _ _ _ _ Hk.out).mono ?_; rintro e w2 ⟨g, rfl, hw, hg, hf⟩; have F2 := Lib.hid hf; have W2 := Lib.hid hw; have B2 := Lib.hid (B1.out.fr hf (fun h => h)); have hne : w.heap.size < g := (by have h1 := F1.out.size; rw [size_alloc] at h1; omega); clear hw hf)))
        go_loopw [11, 12] (fun wa i wr => ∃ (k : Nat) (x : Int), i = .int .i64 k ∧ wa = .int .i64 x ∧ (k : Int) ≤ n + 1 ∧ Hid (x ≤ lowOf b c k ∧ WAt wr g b c j k ∧ Fr No w wr ∧ Blk wr w.heap.size 46 #[.int .i64 b, .int .i64 c, .int .i64 j])) (fun _ i _ => (n + 1).toNat - (intOf i).toNat)
        case atStart =>
          refine ⟨0, 0, rfl, rfl, by omega, ?_, W2.out, ((((Fr.refl _ _).alloc _).then_no F1.out).then_no F2.out), B2.out⟩
          show 0 ≤ b
          omega
        case round =>
          obtain ⟨k, x, rfl, rfl, hkn, hd⟩ := hrel
          by_cases hlt : (k : Int) ≤ n
          · obtain ⟨hx, hW, hF, hB⟩ := hd.out
            have c0' := hB.cell 0
            have c1' := hB.cell 1
            have c2' := hB.cell 2
            have d0 := hW.1.cell 0
            have d1 := hW.1.cell 1
            have d2 := hW.1.cell 2
            simp at c0' c1' c2' d0 d1 d2
            obtain ⟨l1, l2, l3⟩ := low_in (n := (k : Int)) Hk.out
            have m1 : 0 ≤ r % (j + 1) := Int.emod_nonneg _ (by omega)
            have m2 : r % (j + 1) < j + 1 := Int.emod_lt_of_pos _ (by omega)
            have hisT : isT now = true := isT_iff.2 ⟨by omega, by omega⟩
            obtain ⟨a1, a2⟩ : at_ b c j k now r = (now + (lowOf b c (k : Int).toNat + r % (j + 1)), 0) ∧ upN b c j k now r = k + 1 := by
              rcases at_cases (n := (k : Int)) (r := r) Hk.out hisT with ⟨_, h⟩ | ⟨h, _⟩
              · exact h
              · omega
            have hrl := Lib.hid (show (dblR b k c).1 = lowOf b c (k : Int).toNat by rw [dblR_yes (dblOk_iff.2 ⟨by omega, k3, by omega, by omega⟩)]; rfl)
            have hmono := Lib.hid (lowOf_mono Hk.out k)
            rw [Int.toNat_natCast] at a1 l1 l2 l3 hrl
            generalize hlx : lowOf b c k = lo at hx a1 l1 l2 l3 hrl hmono
            generalize hly : r % (j + 1) = y at a1 m1 m2
            have Hlx := Lib.hid hlx
            have A1 := Lib.hid a1
            have A2 := Lib.hid a2
            have HT := Lib.hid hisT
            have HW := Lib.hid hW
            have HF := Lib.hid hF
            have HB := Lib.hid hB
            clear hlx hly a1 a2 hisT hW hF hB hd
            go_wp2_with (first
              | (go_at_call 40; go_loud (refine (bounds_any _ _ _ _ _ Hk.out (by omega) (by omega)).mono ?_; rintro e w3 ⟨rfl, hf⟩; rw [Int.toNat_natCast, Hlx.out]; have HW3 := Lib.hid (HW.out.fr hf (fun h => h)); have HB3 := Lib.hid (HB.out.fr hf (fun h => h)); have F3 := Lib.hid hf; clear hf))
              | (go_at_call 37; go_loud (refine (fail_any HW3.out now r HT.out hr).mono ?_; rintro e w4 ⟨rfl, hf, hn⟩; rw [A1.out]; have hw := hn (by omega); rw [A2.out] at hw; have hb := HB3.out.fr hf (fun h => by omega); have e0 := hb.cell 0; have e1 := hb.cell 1; have e2 := hb.cell 2; simp at e0 e1 e2; have HW4 := Lib.hid hw; have HB4 := Lib.hid hb; have F4 := Lib.hid hf; simp only [pair]; clear hf hn hw hb))
              | (go_at_call 41; go_loud (refine (rlow_any _ _ _ _ (by unfold I64; omega)).mono ?_; rintro e w' ⟨rfl, rfl⟩; rw [hrl.out])))
            go_roundw
            case rel =>
              exact ⟨k + 1, lo, by go_num, rfl, by omega, hmono.out, HW4.out, (HF.out.then_no F3.out).trans F4.out (fun q hq hl => by subst hq; omega), HB4.out⟩
            case measure => simp [intOf]; omega
          · go_wp2_with (go_at_call 32; refine (works_any _).mono ?_; rintro e w' ⟨rfl, hf⟩; have Hf := Lib.hid hf; clear hf)
            go_ret
            exact ⟨rfl, hd.out.2.2.1.then_no Hf.out⟩
set_option maxHeartbeats 4000000 in
set_option maxRecDepth 100000 in
theorem waits_law (b c j now good : Int) (v : Value) (l : List Int) (w : World) (hv : RSl 1 (RInt .i64) w (Ahead w.heap.size) [v] l) (hg8 : 0 ≤ good ∧ good ≤ 255) : Calls Try.prog 8 #[.agg #[.int .i64 b, .int .i64 c, .int .i64 j], v, .int .i64 now, .int .u8 good] w fun e w' => e = .returned (.bool true) ∧ Fr No w w' := by
  obtain ⟨A, cap, rfl, hc1, hc2, hel⟩ := hv.ints
  clear hv
  unfold maxLen at hc2
  have Hel := Lib.hid hel
  clear hel
  obtain ⟨g1, g2⟩ := hg8
  by_cases hbig : 60 < l.length
  · go_enter Try.func8, Try.ntmps8
    go_wp2_with (go_at_call 32; refine (works_any _).mono ?_; rintro e w' ⟨rfl, hf⟩; have Hf := Lib.hid hf; clear hf)
    go_ret
    exact ⟨rfl, ((Fr.refl _ _).alloc _).then_no Hf.out⟩
  · cases hk : ok b c j
    · have Hc := Lib.hid (code_no hk)
      have Hk := Lib.hid hk
      clear hk
      go_enter Try.func8, Try.ntmps8
      go_wp2_with (first
        | (go_at_call 33; go_loud (refine (new_no _ _ _ _ Hk.out).mono ?_; rintro e w1 ⟨rfl, hf⟩; have hb := Blk.fr (Blk.new w 46 #[.int .i64 b, .int .i64 c, .int .i64 j]) hf (fun h => h); have c0 := hb.cell 0; have c1 := hb.cell 1; have c2 := hb.cell 2; simp at c0 c1 c2; have F1 := Lib.hid hf; clear hf hb))
        | (go_at_call 34; refine (rcheck_any _ _ _ _).mono ?_; rintro e w' ⟨rfl, rfl⟩; rw [Hc.out])
        | (go_at_call 35; refine (check_any _ _ _ _).mono ?_; rintro e w2 ⟨rfl, hf⟩; rw [Hc.out]; have F2 := Lib.hid hf; clear hf)
        | (go_at_call 32; refine (works_any _).mono ?_; rintro e w' ⟨rfl, hf⟩; have Hf := Lib.hid hf; clear hf))
      go_ret
      exact ⟨rfl, ((((Fr.refl _ _).alloc _).then_no F1.out).then_no F2.out).then_no Hf.out⟩
    · have Hc := Lib.hid (code_yes hk)
      have Hk := Lib.hid hk
      obtain ⟨k1, k2, k3, k4, k5, k6⟩ := ok_iff.1 hk
      clear hk
      go_enter Try.func8, Try.ntmps8
      go_wp2_with (first
        | (go_at_call 33; go_loud (refine (new_yes _ _ _ _ Hk.out).mono ?_; rintro e w1 ⟨g, rfl, hw, hg, hf⟩; have hb := Blk.fr (Blk.new w 46 #[.int .i64 b, .int .i64 c, .int .i64 j]) hf (fun h => h); have c0 := hb.cell 0; have c1 := hb.cell 1; have c2 := hb.cell 2; simp at c0 c1 c2; have hne : w.heap.size < g := (by rw [size_alloc] at hg; omega); have F1 := Lib.hid hf; have B1 := Lib.hid hb; have W1 := Lib.hid hw; clear hf hb hw))
        | (go_at_call 34; refine (rcheck_any _ _ _ _).mono ?_; rintro e w' ⟨rfl, rfl⟩; rw [Hc.out])
        | (go_at_call 35; go_loud (refine (check_any _ _ _ _).mono ?_; rintro e w2 ⟨rfl, hf⟩; rw [Hc.out]; have W2 := Lib.hid (W1.out.fr hf (fun h => h)); have B2 := Lib.hid (B1.out.fr hf (fun h => h)); have F2 := Lib.hid hf; clear hf)))
      go_loopw [12, 13] (fun nn i wr => ∃ (k n : Nat), i = .int .i64 k ∧ nn = .int .i64 n ∧ k ≤ l.length ∧ n ≤ k ∧ Hid (WAt wr g b c j n ∧ Fr No w wr ∧ Blk wr w.heap.size 46 #[.int .i64 b, .int .i64 c, .int .i64 j])) (fun _ i _ => l.length - (intOf i).toNat)
      case atStart =>
        exact ⟨0, 0, rfl, rfl, by omega, by omega, W2.out, ((((Fr.refl _ _).alloc _).then_no F1.out).then_no F2.out), B2.out⟩
      case round =>
        obtain ⟨k, n, rfl, rfl, hkl, hnk, hd⟩ := hrel
        by_cases hlt : k < l.length
        · obtain ⟨ad, rfl, hSa, hcell, hwf⟩ := Hel.out k hlt
          have Hwf := Lib.hid (i64_of hwf)
          obtain ⟨hW, hF, hB⟩ := hd.out
          have hcell' : wr.cell? (ad.add k) = some (.int .i64 l[k]) := (hF.cell (by rw [block_add]; exact hSa) (fun h => h)).trans hcell
          generalize l[k] = x at hcell' Hwf
          have HW := Lib.hid hW
          have HF := Lib.hid hF
          have HB := Lib.hid hB
          clear hcell hwf hW hF hB hd
          by_cases hgood : 0 < k ∧ (k : Int) = good
          · obtain ⟨hk0, hke⟩ := hgood
            have hgo : ((k : Int) == good) = true := by rw [beq_iff_eq]; exact hke
            clear hke
            have HC := Lib.hid hcell'
            cases hT : isT now
            · have HT := Lib.hid hT
              have hT2 := isT_not.1 hT
              clear hT
              by_cases hneg : now < 0
              · clear hT2
                go_wp2_with (first
                  | (go_at_call 36; go_loud (refine (good_any HW.out).mono ?_; rintro e w5 ⟨rfl, hw, hf⟩; have HC1 := Lib.hid ((hf.cell (p := ad.add k) (by rw [block_add]; have := HF.out.size; simp only [Ahead] at hSa; omega) (by rw [block_add]; simp only [Ahead] at hSa; omega)).trans HC.out); have hC1 := HC1.out; have HW1 := Lib.hid hw; have HF1 := Lib.hid (HF.out.trans hf (fun q hq hl => by subst hq; omega)); have HB1 := Lib.hid (HB.out.fr hf (fun h => by omega)); clear hw hf))
                  | (go_at_call 37; go_loud (refine (fail_arg HW1.out now x HT.out).mono ?_; rintro e w6 ⟨rfl, rfl⟩)))
                go_roundw
                case rel => exact ⟨k + 1, 0, by go_num, by go_num, by omega, by omega, HW1.out, HF1.out, HB1.out⟩
                case measure => simp [intOf]; omega
              · have hbig2 : 1099511627776 < now := by omega
                clear hT2
                go_wp2_with (first
                  | (go_at_call 36; go_loud (refine (good_any HW.out).mono ?_; rintro e w5 ⟨rfl, hw, hf⟩; have HC1 := Lib.hid ((hf.cell (p := ad.add k) (by rw [block_add]; have := HF.out.size; simp only [Ahead] at hSa; omega) (by rw [block_add]; simp only [Ahead] at hSa; omega)).trans HC.out); have hC1 := HC1.out; have HW1 := Lib.hid hw; have HF1 := Lib.hid (HF.out.trans hf (fun q hq hl => by subst hq; omega)); have HB1 := Lib.hid (HB.out.fr hf (fun h => by omega)); clear hw hf))
                  | (go_at_call 37; go_loud (refine (fail_arg HW1.out now x HT.out).mono ?_; rintro e w6 ⟨rfl, rfl⟩)))
                go_roundw
                case rel => exact ⟨k + 1, 0, by go_num, by go_num, by omega, by omega, HW1.out, HF1.out, HB1.out⟩
                case measure => simp [intOf]; omega
            · have HT := Lib.hid hT
              obtain ⟨t1, t2⟩ := isT_iff.1 hT
              rcases at_cases (n := 0) (r := x) Hk.out hT with ⟨hle, a1, a2⟩ | ⟨hle, a1, a2⟩
              · obtain ⟨X, hX⟩ : ∃ X, lowOf b c (0 : Int).toNat + x % (j + 1) = X := ⟨_, rfl⟩
                rw [hX] at hle
                rw [hX] at a1
                have HX := Lib.hid hX
                have Hle := Lib.hid (show decide (now + X ≤ 1099511627776) = true by simp; omega)
                have A1 := Lib.hid a1
                have A2 := Lib.hid a2
                clear a1 a2 hle hT hX
                go_wp2_with (first
                  | (go_at_call 36; go_loud (refine (good_any HW.out).mono ?_; rintro e w5 ⟨rfl, hw, hf⟩; have HC1 := Lib.hid ((hf.cell (p := ad.add k) (by rw [block_add]; have := HF.out.size; simp only [Ahead] at hSa; omega) (by rw [block_add]; simp only [Ahead] at hSa; omega)).trans HC.out); have hC1 := HC1.out; have HW1 := Lib.hid hw; have HF1 := Lib.hid (HF.out.trans hf (fun q hq hl => by subst hq; omega)); have HB1 := Lib.hid (HB.out.fr hf (fun h => by omega)); clear hw hf))
                  | (go_at_call 37; go_loud (refine (fail_any HW1.out now x HT.out Hwf.out).mono ?_; rintro e w6 ⟨rfl, hf, hn⟩; rw [A1.out]; have hw := hn (by omega); rw [A2.out] at hw; have hb := HB1.out.fr hf (fun h => by omega); have e0 := hb.cell 0; have e1 := hb.cell 1; have e2 := hb.cell 2; simp at e0 e1 e2; have hfr := HF1.out.trans hf (fun q hq hl => by subst hq; omega); have hcell6 : w6.cell? (ad.add k) = some (.int .i64 x) := (hf.cell (by rw [block_add]; have := HF1.out.size; simp only [Ahead] at hSa; omega) (by rw [block_add]; simp only [Ahead] at hSa; omega)).trans HC1.out; have HW6 := Lib.hid hw; have HB6 := Lib.hid hb; have HF6 := Lib.hid hfr; simp only [pair]; clear hf hn hw hb hfr)))
                all_goals try (exfalso; omega)
                go_quiet ((go_at_call 38; exact quiet_left ((rat_any b c j 0 now x _ Hk.out (by omega) (by omega) HT.out Hwf.out).mono fun e w' ⟨he, hw⟩ => ⟨he.trans (by rw [HX.out, Hle.out]), hw⟩)))
                go_wp2_with (go_at_call 39; refine (tries_any (WAt.fr HW6.out ((Fr.refl No _).drewN _) (fun h => h))).mono ?_; rintro e w' ⟨rfl, rfl⟩)
                go_roundw
                case rel => exact ⟨k + 1, 0 + 1, by go_num, by go_num, by omega, by omega, WAt.fr HW6.out ((Fr.refl No _).drewN _) (fun h => h), HF6.out.drewN _, HB6.out⟩
                case measure => simp [intOf]; omega
              · obtain ⟨X, hX⟩ : ∃ X, lowOf b c (0 : Int).toNat + x % (j + 1) = X := ⟨_, rfl⟩
                rw [hX] at hle
                have HX := Lib.hid hX
                have Hle := Lib.hid (show decide (now + X ≤ 1099511627776) = false by simp; omega)
                have A1 := Lib.hid a1
                have A2 := Lib.hid a2
                clear a1 a2 hle hT hX
                go_wp2_with (first
                  | (go_at_call 36; go_loud (refine (good_any HW.out).mono ?_; rintro e w5 ⟨rfl, hw, hf⟩; have HC1 := Lib.hid ((hf.cell (p := ad.add k) (by rw [block_add]; have := HF.out.size; simp only [Ahead] at hSa; omega) (by rw [block_add]; simp only [Ahead] at hSa; omega)).trans HC.out); have hC1 := HC1.out; have HW1 := Lib.hid hw; have HF1 := Lib.hid (HF.out.trans hf (fun q hq hl => by subst hq; omega)); have HB1 := Lib.hid (HB.out.fr hf (fun h => by omega)); clear hw hf))
                  | (go_at_call 37; go_loud (refine (fail_any HW1.out now x HT.out Hwf.out).mono ?_; rintro e w6 ⟨rfl, hf, hn⟩; rw [A1.out]; have hw := hn (by omega); rw [A2.out] at hw; have hb := HB1.out.fr hf (fun h => by omega); have e0 := hb.cell 0; have e1 := hb.cell 1; have e2 := hb.cell 2; simp at e0 e1 e2; have hfr := HF1.out.trans hf (fun q hq hl => by subst hq; omega); have hcell6 : w6.cell? (ad.add k) = some (.int .i64 x) := (hf.cell (by rw [block_add]; have := HF1.out.size; simp only [Ahead] at hSa; omega) (by rw [block_add]; simp only [Ahead] at hSa; omega)).trans HC1.out; have HW6 := Lib.hid hw; have HB6 := Lib.hid hb; have HF6 := Lib.hid hfr; simp only [pair]; clear hf hn hw hb hfr)))
                all_goals try (exfalso; omega)
                go_quiet ((go_at_call 38; exact quiet_left ((rat_any b c j 0 now x _ Hk.out (by omega) (by omega) HT.out Hwf.out).mono fun e w' ⟨he, hw⟩ => ⟨he.trans (by rw [HX.out, Hle.out]), hw⟩)))
                go_wp2_with (go_at_call 39; refine (tries_any (WAt.fr HW6.out ((Fr.refl No _).drewN _) (fun h => h))).mono ?_; rintro e w' ⟨rfl, rfl⟩)
                go_roundw
                case rel => exact ⟨k + 1, 0, by go_num, by go_num, by omega, by omega, WAt.fr HW6.out ((Fr.refl No _).drewN _) (fun h => h), HF6.out.drewN _, HB6.out⟩
                case measure => simp [intOf]; omega
          · have hgo : 0 < k → ((k : Int) == good) = false := fun h => by rw [beq_eq_false_iff_ne]; exact fun e => hgood ⟨h, e⟩
            have HC1 := Lib.hid hcell'
            have HW1 := HW
            have HF1 := HF
            have HB1 := HB
            clear hgood HW HF HB
            by_cases hk0 : 0 < k
            · have hgo1 := hgo hk0
              clear hgo
              cases hT : isT now
              · have HT := Lib.hid hT
                have hT2 := isT_not.1 hT
                clear hT
                by_cases hneg : now < 0
                · clear hT2
                  go_wp2_with (first
                    | (go_at_call 37; go_loud (refine (fail_arg HW1.out now x HT.out).mono ?_; rintro e w6 ⟨rfl, rfl⟩)))
                  go_roundw
                  case rel => exact ⟨k + 1, n, by go_num, by go_num, by omega, by omega, HW1.out, HF1.out, HB1.out⟩
                  case measure => simp [intOf]; omega
                · have hbig2 : 1099511627776 < now := by omega
                  clear hT2
                  go_wp2_with (first
                    | (go_at_call 37; go_loud (refine (fail_arg HW1.out now x HT.out).mono ?_; rintro e w6 ⟨rfl, rfl⟩)))
                  go_roundw
                  case rel => exact ⟨k + 1, n, by go_num, by go_num, by omega, by omega, HW1.out, HF1.out, HB1.out⟩
                  case measure => simp [intOf]; omega
              · have HT := Lib.hid hT
                obtain ⟨t1, t2⟩ := isT_iff.1 hT
                rcases at_cases (n := (n : Int)) (r := x) Hk.out hT with ⟨hle, a1, a2⟩ | ⟨hle, a1, a2⟩
                · obtain ⟨X, hX⟩ : ∃ X, lowOf b c ((n : Int) : Int).toNat + x % (j + 1) = X := ⟨_, rfl⟩
                  rw [hX] at hle
                  rw [hX] at a1
                  have HX := Lib.hid hX
                  have Hle := Lib.hid (show decide (now + X ≤ 1099511627776) = true by simp; omega)
                  have A1 := Lib.hid a1
                  have A2 := Lib.hid a2
                  clear a1 a2 hle hT hX
                  go_wp2_with (first
                    | (go_at_call 37; go_loud (refine (fail_any HW1.out now x HT.out Hwf.out).mono ?_; rintro e w6 ⟨rfl, hf, hn⟩; rw [A1.out]; have hw := hn (by omega); rw [A2.out] at hw; have hb := HB1.out.fr hf (fun h => by omega); have e0 := hb.cell 0; have e1 := hb.cell 1; have e2 := hb.cell 2; simp at e0 e1 e2; have hfr := HF1.out.trans hf (fun q hq hl => by subst hq; omega); have hcell6 : w6.cell? (ad.add k) = some (.int .i64 x) := (hf.cell (by rw [block_add]; have := HF1.out.size; simp only [Ahead] at hSa; omega) (by rw [block_add]; simp only [Ahead] at hSa; omega)).trans HC1.out; have HW6 := Lib.hid hw; have HB6 := Lib.hid hb; have HF6 := Lib.hid hfr; simp only [pair]; clear hf hn hw hb hfr)))
                  all_goals try (exfalso; omega)
                  go_quiet ((go_at_call 38; exact quiet_left ((rat_any b c j (n : Int) now x _ Hk.out (by omega) (by omega) HT.out Hwf.out).mono fun e w' ⟨he, hw⟩ => ⟨he.trans (by rw [HX.out, Hle.out]), hw⟩)))
                  go_wp2_with (go_at_call 39; refine (tries_any (WAt.fr HW6.out ((Fr.refl No _).drewN _) (fun h => h))).mono ?_; rintro e w' ⟨rfl, rfl⟩)
                  go_roundw
                  case rel => exact ⟨k + 1, n + 1, by go_num, by go_num, by omega, by omega, WAt.fr HW6.out ((Fr.refl No _).drewN _) (fun h => h), HF6.out.drewN _, HB6.out⟩
                  case measure => simp [intOf]; omega
                · obtain ⟨X, hX⟩ : ∃ X, lowOf b c ((n : Int) : Int).toNat + x % (j + 1) = X := ⟨_, rfl⟩
                  rw [hX] at hle
                  have HX := Lib.hid hX
                  have Hle := Lib.hid (show decide (now + X ≤ 1099511627776) = false by simp; omega)
                  have A1 := Lib.hid a1
                  have A2 := Lib.hid a2
                  clear a1 a2 hle hT hX
                  go_wp2_with (first
                    | (go_at_call 37; go_loud (refine (fail_any HW1.out now x HT.out Hwf.out).mono ?_; rintro e w6 ⟨rfl, hf, hn⟩; rw [A1.out]; have hw := hn (by omega); rw [A2.out] at hw; have hb := HB1.out.fr hf (fun h => by omega); have e0 := hb.cell 0; have e1 := hb.cell 1; have e2 := hb.cell 2; simp at e0 e1 e2; have hfr := HF1.out.trans hf (fun q hq hl => by subst hq; omega); have hcell6 : w6.cell? (ad.add k) = some (.int .i64 x) := (hf.cell (by rw [block_add]; have := HF1.out.size; simp only [Ahead] at hSa; omega) (by rw [block_add]; simp only [Ahead] at hSa; omega)).trans HC1.out; have HW6 := Lib.hid hw; have HB6 := Lib.hid hb; have HF6 := Lib.hid hfr; simp only [pair]; clear hf hn hw hb hfr)))
                  all_goals try (exfalso; omega)
                  go_quiet ((go_at_call 38; exact quiet_left ((rat_any b c j (n : Int) now x _ Hk.out (by omega) (by omega) HT.out Hwf.out).mono fun e w' ⟨he, hw⟩ => ⟨he.trans (by rw [HX.out, Hle.out]), hw⟩)))
                  go_wp2_with (go_at_call 39; refine (tries_any (WAt.fr HW6.out ((Fr.refl No _).drewN _) (fun h => h))).mono ?_; rintro e w' ⟨rfl, rfl⟩)
                  go_roundw
                  case rel => exact ⟨k + 1, n, by go_num, by go_num, by omega, by omega, WAt.fr HW6.out ((Fr.refl No _).drewN _) (fun h => h), HF6.out.drewN _, HB6.out⟩
                  case measure => simp [intOf]; omega
            · clear hgo
              cases hT : isT now
              · have HT := Lib.hid hT
                have hT2 := isT_not.1 hT
                clear hT
                by_cases hneg : now < 0
                · clear hT2
                  go_wp2_with (first
                    | (go_at_call 37; go_loud (refine (fail_arg HW1.out now x HT.out).mono ?_; rintro e w6 ⟨rfl, rfl⟩)))
                  go_roundw
                  case rel => exact ⟨k + 1, n, by go_num, by go_num, by omega, by omega, HW1.out, HF1.out, HB1.out⟩
                  case measure => simp [intOf]; omega
                · have hbig2 : 1099511627776 < now := by omega
                  clear hT2
                  go_wp2_with (first
                    | (go_at_call 37; go_loud (refine (fail_arg HW1.out now x HT.out).mono ?_; rintro e w6 ⟨rfl, rfl⟩)))
                  go_roundw
                  case rel => exact ⟨k + 1, n, by go_num, by go_num, by omega, by omega, HW1.out, HF1.out, HB1.out⟩
                  case measure => simp [intOf]; omega
              · have HT := Lib.hid hT
                obtain ⟨t1, t2⟩ := isT_iff.1 hT
                rcases at_cases (n := (n : Int)) (r := x) Hk.out hT with ⟨hle, a1, a2⟩ | ⟨hle, a1, a2⟩
                · obtain ⟨X, hX⟩ : ∃ X, lowOf b c ((n : Int) : Int).toNat + x % (j + 1) = X := ⟨_, rfl⟩
                  rw [hX] at hle
                  rw [hX] at a1
                  have HX := Lib.hid hX
                  have Hle := Lib.hid (show decide (now + X ≤ 1099511627776) = true by simp; omega)
                  have A1 := Lib.hid a1
                  have A2 := Lib.hid a2
                  clear a1 a2 hle hT hX
                  go_wp2_with (first
                    | (go_at_call 37; go_loud (refine (fail_any HW1.out now x HT.out Hwf.out).mono ?_; rintro e w6 ⟨rfl, hf, hn⟩; rw [A1.out]; have hw := hn (by omega); rw [A2.out] at hw; have hb := HB1.out.fr hf (fun h => by omega); have e0 := hb.cell 0; have e1 := hb.cell 1; have e2 := hb.cell 2; simp at e0 e1 e2; have hfr := HF1.out.trans hf (fun q hq hl => by subst hq; omega); have hcell6 : w6.cell? (ad.add k) = some (.int .i64 x) := (hf.cell (by rw [block_add]; have := HF1.out.size; simp only [Ahead] at hSa; omega) (by rw [block_add]; simp only [Ahead] at hSa; omega)).trans HC1.out; have HW6 := Lib.hid hw; have HB6 := Lib.hid hb; have HF6 := Lib.hid hfr; simp only [pair]; clear hf hn hw hb hfr)))
                  all_goals try (exfalso; omega)
                  go_quiet ((go_at_call 38; exact quiet_left ((rat_any b c j (n : Int) now x _ Hk.out (by omega) (by omega) HT.out Hwf.out).mono fun e w' ⟨he, hw⟩ => ⟨he.trans (by rw [HX.out, Hle.out]), hw⟩)))
                  go_wp2_with (go_at_call 39; refine (tries_any (WAt.fr HW6.out ((Fr.refl No _).drewN _) (fun h => h))).mono ?_; rintro e w' ⟨rfl, rfl⟩)
                  go_roundw
                  case rel => exact ⟨k + 1, n + 1, by go_num, by go_num, by omega, by omega, WAt.fr HW6.out ((Fr.refl No _).drewN _) (fun h => h), HF6.out.drewN _, HB6.out⟩
                  case measure => simp [intOf]; omega
                · obtain ⟨X, hX⟩ : ∃ X, lowOf b c ((n : Int) : Int).toNat + x % (j + 1) = X := ⟨_, rfl⟩
                  rw [hX] at hle
                  have HX := Lib.hid hX
                  have Hle := Lib.hid (show decide (now + X ≤ 1099511627776) = false by simp; omega)
                  have A1 := Lib.hid a1
                  have A2 := Lib.hid a2
                  clear a1 a2 hle hT hX
                  go_wp2_with (first
                    | (go_at_call 37; go_loud (refine (fail_any HW1.out now x HT.out Hwf.out).mono ?_; rintro e w6 ⟨rfl, hf, hn⟩; rw [A1.out]; have hw := hn (by omega); rw [A2.out] at hw; have hb := HB1.out.fr hf (fun h => by omega); have e0 := hb.cell 0; have e1 := hb.cell 1; have e2 := hb.cell 2; simp at e0 e1 e2; have hfr := HF1.out.trans hf (fun q hq hl => by subst hq; omega); have hcell6 : w6.cell? (ad.add k) = some (.int .i64 x) := (hf.cell (by rw [block_add]; have := HF1.out.size; simp only [Ahead] at hSa; omega) (by rw [block_add]; simp only [Ahead] at hSa; omega)).trans HC1.out; have HW6 := Lib.hid hw; have HB6 := Lib.hid hb; have HF6 := Lib.hid hfr; simp only [pair]; clear hf hn hw hb hfr)))
                  all_goals try (exfalso; omega)
                  go_quiet ((go_at_call 38; exact quiet_left ((rat_any b c j (n : Int) now x _ Hk.out (by omega) (by omega) HT.out Hwf.out).mono fun e w' ⟨he, hw⟩ => ⟨he.trans (by rw [HX.out, Hle.out]), hw⟩)))
                  go_wp2_with (go_at_call 39; refine (tries_any (WAt.fr HW6.out ((Fr.refl No _).drewN _) (fun h => h))).mono ?_; rintro e w' ⟨rfl, rfl⟩)
                  go_roundw
                  case rel => exact ⟨k + 1, n, by go_num, by go_num, by omega, by omega, WAt.fr HW6.out ((Fr.refl No _).drewN _) (fun h => h), HF6.out.drewN _, HB6.out⟩
                  case measure => simp [intOf]; omega
        · go_wp2_with (go_at_call 32; refine (works_any _).mono ?_; rintro e w' ⟨rfl, hf⟩; have Hf := Lib.hid hf; clear hf)
          go_ret
          exact ⟨rfl, hd.out.2.1.then_no Hf.out⟩
theorem three_ints {w : World} {S : Nat → Prop} {c : Array Value} {x : Int × (Int × Int)} (h : (RTwo 1 (RInt .i64) (RTwo 1 (RInt .i64) (RInt .i64))) w S c.toList x) : c = #[.int .i64 x.1, .int .i64 x.2.1, .int .i64 x.2.2] := by
  obtain ⟨_, ⟨h1, _⟩, _, ⟨h2, _⟩, h3, _⟩ := h
  apply Array.toList_inj.1
  rw [← List.take_append_drop 1 c.toList, h1, ← List.take_append_drop 1 (c.toList.drop 1), h2, h3]
  rfl
theorem u8_of {n : Int} (h : (Lit.int .u8 n).wf = true) : 0 ≤ n ∧ n ≤ 255 := by simpa [Lit.wf, IntKind.min, IntKind.max, IntKind.signed, IntKind.bits] using h
theorem u32_of {n : Int} (h : (Lit.int .u32 n).wf = true) : 0 ≤ n ∧ n ≤ 4294967295 := by simpa [Lit.wf, IntKind.min, IntKind.max, IntKind.signed, IntKind.bits] using h
theorem walk_BackoffWaits (W : World) (c0 : Array Value) (x0 : (Int × (Int × Int))) (h0 : (RTwo 1 (RInt .i64) (RTwo 1 (RInt .i64) (RInt .i64))) W (Ahead W.heap.size) c0.toList x0) (v1 : Value) (x1 : (List Int)) (h1 : (RSl 1 (RInt .i64)) W (Ahead W.heap.size) [v1] x1) (v2 : Value) (x2 : Int) (h2 : (RInt .i64) W (Ahead W.heap.size) [v2] x2) (v3 : Value) (x3 : Int) (h3 : (RInt .u8) W (Ahead W.heap.size) [v3] x3) : Calls Try.prog 8 #[.agg c0, v1, v2, v3] W fun e w' => e = .returned (.bool true) ∧ Fr No W w' := by
  rw [three_ints h0]
  obtain ⟨h2, _⟩ := h2
  obtain ⟨h3, h3'⟩ := h3
  injection h2 with h2
  injection h3 with h3
  subst h2 h3
  exact waits_law _ _ _ _ _ _ _ _ h1 (u8_of h3')
theorem walk_BackoffBounds (W : World) (c0 : Array Value) (x0 : (Int × (Int × Int))) (h0 : (RTwo 1 (RInt .i64) (RTwo 1 (RInt .i64) (RInt .i64))) W (Ahead W.heap.size) c0.toList x0) (v1 : Value) (x1 : Int) (h1 : (RInt .i64) W (Ahead W.heap.size) [v1] x1) (v2 : Value) (x2 : Int) (h2 : (RInt .u32) W (Ahead W.heap.size) [v2] x2) (v3 : Value) (x3 : Int) (h3 : (RInt .i64) W (Ahead W.heap.size) [v3] x3) : Calls Try.prog 9 #[.agg c0, v1, v2, v3] W fun e w' => e = .returned (.bool true) ∧ Fr No W w' := by
  rw [three_ints h0]
  obtain ⟨h1, _⟩ := h1
  obtain ⟨h2, h2'⟩ := h2
  obtain ⟨h3, h3'⟩ := h3
  injection h1 with h1
  injection h2 with h2
  injection h3 with h3
  subst h1 h2 h3
  exact bounds_law _ _ _ _ _ _ _ (u32_of h2') (i64_of h3')
end Backoff
end Go.Proofs.Ytckgkeicilcnmaa
