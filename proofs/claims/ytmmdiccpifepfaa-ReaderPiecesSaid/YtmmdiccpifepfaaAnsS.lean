/- Answer: replies that are the same; replies that can be looked at. Printed by gen_anss.py. -/
import Derived.Test.YtmmdiccpifepfaaAnsV
import Derived.Deep.CutRange
namespace Go.Proofs.Ytmmdiccpifepfaa
open Go.RowKit
set_option linter.unusedVariables false
set_option linter.unusedSimpArgs false
namespace Ans
open Digit Sls
/-- Replies that may be looked at. -/
def smallR (L : List Str) : Bool := decide (L.length ≤ 40 ∧ ∀ s ∈ L, s.length ≤ 80)
theorem small_ok {L : List Str} (h : smallR L = true) : Okr L := by
  have := of_decide_eq_true h
  exact ⟨by omega, fun s hs => by have := this.2 s hs; omega⟩
set_option maxRecDepth 100000 in
set_option maxHeartbeats 4000000 in
theorem same_yes (n : Int) (v1 v2 : Value) (L1 L2 : List Str) (w : World) (S : Nat → Prop) (hS : ∀ k, S k → k < w.heap.size) (h1 : RSl 1 RStr w S [v1] L1) (h2 : RSl 1 RStr w S [v2] L2) (he : filled L1 = filled L2) :
    Calls Try.prog 35 #[.agg #[.int .i64 n, v1], .agg #[.int .i64 n, v2]] w fun e w' => e = .returned (.bool true) ∧ Fr No w w' := by
  obtain ⟨A1, c1, rfl, hc1, hc2⟩ := h1.slice
  obtain ⟨A2, c2, rfl, hd1, hd2⟩ := h2.slice
  unfold maxLen at hc2 hd2
  obtain ⟨b1, hb1⟩ : ∃ b1, w.heap.size = b1 := ⟨_, rfl⟩
  obtain ⟨b2, hb2⟩ : ∃ b2, b1 + 1 = b2 := ⟨_, rfl⟩
  have X1 := Lib.hid ((Blk.new w 69 #[.int .i64 n, .slice A1 L1.length c1]).alloc (.cells #[.int .i64 n, .slice A2 L2.length c2] 69))
  have X2 := Lib.hid (Blk.new (w.alloc (.cells #[.int .i64 n, .slice A1 L1.length c1] 69)) 69 #[.int .i64 n, .slice A2 L2.length c2])
  rw [size_alloc, hb1, hb2] at X2
  rw [hb1] at X1
  have F0 := Lib.hid (((Fr.refl No w).alloc (.cells #[.int .i64 n, .slice A1 L1.length c1] 69)).alloc (.cells #[.int .i64 n, .slice A2 L2.length c2] 69))
  have H1 := Lib.hid (str_keep h1 F0.out hS)
  have H2 := Lib.hid (str_keep h2 F0.out hS)
  have HS := Lib.hid (fun k hk => Nat.lt_of_lt_of_le (hS k hk) F0.out.size)
  have HE := Lib.hid he
  clear h1 h2 hS he
  go_enter Try.func35, Try.ntmps35
  go_wp2_with fail
  obtain ⟨w1, hw1⟩ : ∃ w1, (w.alloc (.cells #[.int .i64 n, .slice A1 L1.length c1] 69)).alloc (.cells #[.int .i64 n, .slice A2 L2.length c2] 69) = w1 := ⟨_, rfl⟩
  rw [hw1] at X1 X2 F0 H1 H2 HS ⊢
  clear hw1 hb1 hb2
  have x10 : w1.cell? ⟨b1, 0, none⟩ = some (.int .i64 n) := X1.out.cell 0
  have x11 : w1.cell? ⟨b1, 1, none⟩ = some (.slice A1 L1.length c1) := X1.out.cell 1
  have x20 : w1.cell? ⟨b2, 0, none⟩ = some (.int .i64 n) := X2.out.cell 0
  have x21 : w1.cell? ⟨b2, 1, none⟩ = some (.slice A2 L2.length c2) := X2.out.cell 1
  have hbn : (n != n) = false := by simp
  by_cases hz1 : L1.length = 0
  · have hL1 : L1 = [] := List.eq_nil_of_length_eq_zero hz1
    subst hL1
    by_cases hz2 : L2.length = 0
    · have hL2 : L2 = [] := List.eq_nil_of_length_eq_zero hz2
      subst hL2
      have h1l := X1.out.lt
      have h2l := X2.out.lt
      have h1n : b1 ≠ w1.heap.size := by omega
      have h2n : b2 ≠ w1.heap.size := by omega
      have h1m : b1 ≠ w1.heap.size + 1 := by omega
      have h2m : b2 ≠ w1.heap.size + 1 := by omega
      go_quiet (fail)
      go_upto_region 6 with (fail)
      obtain ⟨W6, hW6⟩ : ∃ W6, ((w1.drewN nq).alloc (.cells #[.string ⟨#[]⟩] 9)).alloc (.cells #[.string ⟨#[]⟩] 9) = W6 := ⟨_, rfl⟩
      obtain ⟨M, hM⟩ : ∃ M : List Str, [[]] = M := ⟨_, rfl⟩
      have HM1 := Lib.hid (show M.length = 1 by rw [← hM]; rfl)
      have X6 := Lib.hid (show Blk W6 b1 69 _ from by rw [← hW6]; exact ((X1.out.drewN nq).alloc _).alloc _)
      have Y6 := Lib.hid (show Blk W6 b2 69 _ from by rw [← hW6]; exact ((X2.out.drewN nq).alloc _).alloc _)
      have F6 := Lib.hid (show Fr No w W6 from by rw [← hW6]; exact ((F0.out.drewN nq).alloc _).alloc _)
      have g1 := Grow.lit (w1.drewN nq) 9 1 encL [[]] rfl (by unfold maxLen; decide)
      have g2 := Grow.lit ((w1.drewN nq).alloc (.cells #[.string ⟨#[]⟩] 9)) 9 1 encL [[]] rfl (by unfold maxLen; decide)
      have R5 := Lib.hid (show RSl 1 RStr W6 _ [.slice (some ⟨w1.heap.size, 0, none⟩) 1 1] M from by rw [← hW6, ← hM]; exact str_keep (grl_sl g1 (fun x hx => by rw [List.mem_singleton.1 hx]; exact Nat.zero_le _)) ((Fr.refl No _).alloc _) (fun k hk => hk.2))
      have R6 := Lib.hid (show RSl 1 RStr W6 _ [.slice (some ⟨w1.heap.size + 1, 0, none⟩) 1 1] M from by rw [← hW6, ← hM]; have := grl_sl g2 (fun x hx => by rw [List.mem_singleton.1 hx]; exact Nat.zero_le _); rw [size_alloc] at this; exact this)
      rw [hW6]
      clear hM hW6 g1 g2 x10 x11 x20 x21
      have x10 : W6.cell? ⟨b1, 0, none⟩ = some (.int .i64 n) := X6.out.cell 0
      have x20 : W6.cell? ⟨b2, 0, none⟩ = some (.int .i64 n) := Y6.out.cell 0
      generalize (some (⟨w1.heap.size, 0, none⟩ : Addr)) = B1 at R5 ⊢
      generalize (some (⟨w1.heap.size + 1, 0, none⟩ : Addr)) = B2 at R6 ⊢
      go_wp2_with fail
      go_loopw [7] (fun i wr => ∃ k : Nat, i = .int .i64 k ∧ k ≤ M.length ∧ Hid (∃ q, wr = W6.drewN q)) (fun i _ => M.length - (intOf i).toNat)
      case atStart => exact ⟨0, rfl, by omega, ⟨0, rfl⟩⟩
      case round =>
        obtain ⟨k, rfl, hk, hw⟩ := hrel
        obtain ⟨q, hq⟩ := hw.out
        subst hq
        by_cases hlt : k < M.length
        · obtain ⟨ad, rfl, cs, -, -⟩ := str_at R5.out hlt
          obtain ⟨ae, rfl, ct, -, -⟩ := str_at R6.out hlt
          obtain ⟨x, hx⟩ : ∃ x, M[k] = x := ⟨_, rfl⟩
          rw [hx] at cs ct
          have hxb : (x == x) = true := by simp
          have hxc : (!(x == x)) = false := by simp
          have hk1 : (k : Int) < 1 := by have := HM1.out; omega
          clear hx
          go_wp2_with fail
          go_quiet (fail)
          go_wp2_with fail
          go_roundw
          case rel => exact ⟨k + 1, by go_num, by omega, ⟨_, rfl⟩⟩
          case measure => simp [intOf]; omega
        · have hk1 : ¬ (k : Int) < 1 := by have := HM1.out; omega
          go_wp2_with fail
          go_ret
          exact ⟨rfl, F6.out.drewN _⟩
    · have hL2 : L2 = [[]] := by have := HE.out; unfold filled at this; rw [if_pos rfl, if_neg (by intro e; rw [e] at hz2; exact hz2 rfl)] at this; exact this.symm
      subst hL2
      have hln : (([[]] : List Str).length) = 1 := rfl
      rw [hln] at x21 H2
      have h1l := X1.out.lt
      have h2l := X2.out.lt
      have h1n : b1 ≠ w1.heap.size := by omega
      have h2n : b2 ≠ w1.heap.size := by omega
      have h1m : b1 ≠ w1.heap.size + 1 := by omega
      have h2m : b2 ≠ w1.heap.size + 1 := by omega
      go_quiet (fail)
      go_upto_region 6 with (fail)
      obtain ⟨W6, hW6⟩ : ∃ W6, (w1.drewN nq).alloc (.cells #[.string ⟨#[]⟩] 9) = W6 := ⟨_, rfl⟩
      obtain ⟨M, hM⟩ : ∃ M : List Str, [[]] = M := ⟨_, rfl⟩
      have HM1 := Lib.hid (show M.length = 1 by rw [← hM]; rfl)
      have X6 := Lib.hid (show Blk W6 b1 69 _ from by rw [← hW6]; exact (X1.out.drewN nq).alloc _)
      have Y6 := Lib.hid (show Blk W6 b2 69 _ from by rw [← hW6]; exact (X2.out.drewN nq).alloc _)
      have F6 := Lib.hid (show Fr No w W6 from by rw [← hW6]; exact (F0.out.drewN nq).alloc _)
      have g1 := Grow.lit (w1.drewN nq) 9 1 encL [[]] rfl (by unfold maxLen; decide)
      have R5 := Lib.hid (show RSl 1 RStr W6 _ [.slice (some ⟨w1.heap.size, 0, none⟩) 1 1] M from by rw [← hW6, ← hM]; exact grl_sl g1 (fun x hx => by rw [List.mem_singleton.1 hx]; exact Nat.zero_le _))
      have R6 := Lib.hid (show RSl 1 RStr W6 _ [.slice A2 1 c2] M from by rw [← hW6, ← hM]; exact str_keep H2.out (((Fr.refl No w1).drewN nq).alloc _) HS.out)
      rw [hW6]
      clear hM hW6 g1 x10 x11 x20 x21
      have x10 : W6.cell? ⟨b1, 0, none⟩ = some (.int .i64 n) := X6.out.cell 0
      have x20 : W6.cell? ⟨b2, 0, none⟩ = some (.int .i64 n) := Y6.out.cell 0
      generalize (some (⟨w1.heap.size, 0, none⟩ : Addr)) = B1 at R5 ⊢
      go_wp2_with fail
      go_loopw [7] (fun i wr => ∃ k : Nat, i = .int .i64 k ∧ k ≤ M.length ∧ Hid (∃ q, wr = W6.drewN q)) (fun i _ => M.length - (intOf i).toNat)
      case atStart => exact ⟨0, rfl, by omega, ⟨0, rfl⟩⟩
      case round =>
        obtain ⟨k, rfl, hk, hw⟩ := hrel
        obtain ⟨q, hq⟩ := hw.out
        subst hq
        by_cases hlt : k < M.length
        · obtain ⟨ad, rfl, cs, -, -⟩ := str_at R5.out hlt
          obtain ⟨ae, rfl, ct, -, -⟩ := str_at R6.out hlt
          obtain ⟨x, hx⟩ : ∃ x, M[k] = x := ⟨_, rfl⟩
          rw [hx] at cs ct
          have hxb : (x == x) = true := by simp
          have hxc : (!(x == x)) = false := by simp
          have hk1 : (k : Int) < 1 := by have := HM1.out; omega
          clear hx
          go_wp2_with fail
          go_quiet (fail)
          go_wp2_with fail
          go_roundw
          case rel => exact ⟨k + 1, by go_num, by omega, ⟨_, rfl⟩⟩
          case measure => simp [intOf]; omega
        · have hk1 : ¬ (k : Int) < 1 := by have := HM1.out; omega
          go_wp2_with fail
          go_ret
          exact ⟨rfl, F6.out.drewN _⟩
  · by_cases hz2 : L2.length = 0
    · have hL2 : L2 = [] := List.eq_nil_of_length_eq_zero hz2
      subst hL2
      have hL1 : L1 = [[]] := by have := HE.out; unfold filled at this; rw [if_pos rfl, if_neg (by intro e; rw [e] at hz1; exact hz1 rfl)] at this; exact this
      subst hL1
      have hln : (([[]] : List Str).length) = 1 := rfl
      rw [hln] at x11 H1
      have h1l := X1.out.lt
      have h2l := X2.out.lt
      have h1n : b1 ≠ w1.heap.size := by omega
      have h2n : b2 ≠ w1.heap.size := by omega
      have h1m : b1 ≠ w1.heap.size + 1 := by omega
      have h2m : b2 ≠ w1.heap.size + 1 := by omega
      go_quiet (fail)
      go_upto_region 6 with (fail)
      obtain ⟨W6, hW6⟩ : ∃ W6, (w1.drewN nq).alloc (.cells #[.string ⟨#[]⟩] 9) = W6 := ⟨_, rfl⟩
      obtain ⟨M, hM⟩ : ∃ M : List Str, [[]] = M := ⟨_, rfl⟩
      have HM1 := Lib.hid (show M.length = 1 by rw [← hM]; rfl)
      have X6 := Lib.hid (show Blk W6 b1 69 _ from by rw [← hW6]; exact (X1.out.drewN nq).alloc _)
      have Y6 := Lib.hid (show Blk W6 b2 69 _ from by rw [← hW6]; exact (X2.out.drewN nq).alloc _)
      have F6 := Lib.hid (show Fr No w W6 from by rw [← hW6]; exact (F0.out.drewN nq).alloc _)
      have g1 := Grow.lit (w1.drewN nq) 9 1 encL [[]] rfl (by unfold maxLen; decide)
      have R6 := Lib.hid (show RSl 1 RStr W6 _ [.slice (some ⟨w1.heap.size, 0, none⟩) 1 1] M from by rw [← hW6, ← hM]; exact grl_sl g1 (fun x hx => by rw [List.mem_singleton.1 hx]; exact Nat.zero_le _))
      have R5 := Lib.hid (show RSl 1 RStr W6 _ [.slice A1 1 c1] M from by rw [← hW6, ← hM]; exact str_keep H1.out (((Fr.refl No w1).drewN nq).alloc _) HS.out)
      rw [hW6]
      clear hM hW6 g1 x10 x11 x20 x21
      have x10 : W6.cell? ⟨b1, 0, none⟩ = some (.int .i64 n) := X6.out.cell 0
      have x20 : W6.cell? ⟨b2, 0, none⟩ = some (.int .i64 n) := Y6.out.cell 0
      generalize (some (⟨w1.heap.size, 0, none⟩ : Addr)) = B2 at R6 ⊢
      go_wp2_with fail
      go_loopw [7] (fun i wr => ∃ k : Nat, i = .int .i64 k ∧ k ≤ M.length ∧ Hid (∃ q, wr = W6.drewN q)) (fun i _ => M.length - (intOf i).toNat)
      case atStart => exact ⟨0, rfl, by omega, ⟨0, rfl⟩⟩
      case round =>
        obtain ⟨k, rfl, hk, hw⟩ := hrel
        obtain ⟨q, hq⟩ := hw.out
        subst hq
        by_cases hlt : k < M.length
        · obtain ⟨ad, rfl, cs, -, -⟩ := str_at R5.out hlt
          obtain ⟨ae, rfl, ct, -, -⟩ := str_at R6.out hlt
          obtain ⟨x, hx⟩ : ∃ x, M[k] = x := ⟨_, rfl⟩
          rw [hx] at cs ct
          have hxb : (x == x) = true := by simp
          have hxc : (!(x == x)) = false := by simp
          have hk1 : (k : Int) < 1 := by have := HM1.out; omega
          clear hx
          go_wp2_with fail
          go_quiet (fail)
          go_wp2_with fail
          go_roundw
          case rel => exact ⟨k + 1, by go_num, by omega, ⟨_, rfl⟩⟩
          case measure => simp [intOf]; omega
        · have hk1 : ¬ (k : Int) < 1 := by have := HM1.out; omega
          go_wp2_with fail
          go_ret
          exact ⟨rfl, F6.out.drewN _⟩
    · have hL2 : L1 = L2 := by have := HE.out; unfold filled at this; rw [if_neg (by intro e; rw [e] at hz1; exact hz1 rfl), if_neg (by intro e; rw [e] at hz2; exact hz2 rfl)] at this; exact this
      subst hL2
      have hlb : ((L1.length : Int) != (L1.length : Int)) = false := by simp
      have hlz : ((L1.length : Int) == 0) = false := by rw [beq_eq_false_iff_ne]; omega
      have h1l := X1.out.lt
      have h2l := X2.out.lt
      have h1n : b1 ≠ w1.heap.size := by omega
      have h2n : b2 ≠ w1.heap.size := by omega
      have h1m : b1 ≠ w1.heap.size + 1 := by omega
      have h2m : b2 ≠ w1.heap.size + 1 := by omega
      go_quiet (fail)
      go_upto_region 6 with (fail)
      obtain ⟨W6, hW6⟩ : ∃ W6, w1.drewN nq = W6 := ⟨_, rfl⟩
      have F6 := Lib.hid (show Fr No w W6 from by rw [← hW6]; exact F0.out.drewN nq)
      have R5 := Lib.hid (show RSl 1 RStr W6 _ [.slice A1 L1.length c1] L1 from by rw [← hW6]; exact str_keep H1.out ((Fr.refl No w1).drewN nq) HS.out)
      have R6 := Lib.hid (show RSl 1 RStr W6 _ [.slice A2 L1.length c2] L1 from by rw [← hW6]; exact str_keep H2.out ((Fr.refl No w1).drewN nq) HS.out)
      have X6 := Lib.hid (show Blk W6 b1 69 _ from by rw [← hW6]; exact X1.out.drewN nq)
      have Y6 := Lib.hid (show Blk W6 b2 69 _ from by rw [← hW6]; exact X2.out.drewN nq)
      rw [hW6]
      clear hW6 x10 x11 x20 x21
      have x10 : W6.cell? ⟨b1, 0, none⟩ = some (.int .i64 n) := X6.out.cell 0
      have x20 : W6.cell? ⟨b2, 0, none⟩ = some (.int .i64 n) := Y6.out.cell 0
      go_wp2_with fail
      go_loopw [7] (fun i wr => ∃ k : Nat, i = .int .i64 k ∧ k ≤ L1.length ∧ Hid (∃ q, wr = W6.drewN q)) (fun i _ => L1.length - (intOf i).toNat)
      case atStart => exact ⟨0, rfl, by omega, ⟨0, rfl⟩⟩
      case round =>
        obtain ⟨k, rfl, hk, hw⟩ := hrel
        obtain ⟨q, hq⟩ := hw.out
        subst hq
        by_cases hlt : k < L1.length
        · obtain ⟨ad, rfl, cs, -, -⟩ := str_at R5.out hlt
          obtain ⟨ae, rfl, ct, -, -⟩ := str_at R6.out hlt
          obtain ⟨x, hx⟩ : ∃ x, L1[k] = x := ⟨_, rfl⟩
          rw [hx] at cs ct
          have hxb : (x == x) = true := by simp
          have hxc : (!(x == x)) = false := by simp
          skip
          clear hx
          go_wp2_with fail
          go_quiet (fail)
          go_wp2_with fail
          go_roundw
          case rel => exact ⟨k + 1, by go_num, by omega, ⟨_, rfl⟩⟩
          case measure => simp [intOf]; omega
        · skip
          go_wp2_with fail
          go_ret
          exact ⟨rfl, F6.out.drewN _⟩
end Ans
end Go.Proofs.Ytmmdiccpifepfaa
