/- Answer: the laws. -/
import Derived.Test.YtjelndobekcbmaaAnsX
import Derived.Test.YtjelndobekcbmaaLaw
namespace Go.Proofs.Ytjelndobekcbmaa
open Go.RowKit
set_option linter.unusedVariables false
set_option linter.unusedSimpArgs false
namespace Ans
open Digit Sls
theorem rep_open {w : World} {S : Nat → Prop} {c0 : Array Value} {x : Rep} (h : RRep w S c0.toList x) : ∃ v, c0 = #[.int .i64 x.1, v] ∧ (-9223372036854775808 ≤ x.1 ∧ x.1 ≤ 9223372036854775807) ∧ RSl 1 RStr w S [v] x.2 := by
  obtain ⟨hl, ⟨h1, b1⟩, h2⟩ := h
  obtain ⟨A, cap, h3, _⟩ := id h2
  refine ⟨_, ?_, wf64 b1, h3 ▸ h2⟩
  have e : c0.toList = [.int .i64 x.1, .slice A x.2.length cap] := by rw [← List.take_append_drop 1 c0.toList, h1, h3]; rfl
  have := congrArg List.toArray e
  simpa using this
theorem putA_cases {n : Int} {L : List Str} {z : Str} {c : Int} (h : putA (n, L) = (z, c)) : (c = 0 ∧ (100 ≤ n ∧ n ≤ 999) ∧ z = putB n (filled L)) ∨ (c ≠ 0 ∧ z = []) := by
  unfold putA at h
  split at h
  · injection h with h1 h2
    exact .inr ⟨by rw [← h2]; decide, h1.symm⟩
  · split at h
    · injection h with h1 h2
      exact .inr ⟨by rw [← h2]; decide, h1.symm⟩
    · rename_i h3 h4
      injection h with h1 h2
      exact .inl ⟨h2.symm, by simp only at h3; omega, h1.symm⟩
theorem filled_ne (L : List Str) : filled L ≠ [] := by
  unfold filled
  split
  · simp
  · assumption
theorem filled_len {L : List Str} (h : Okr L) : Okr (filled L) := by
  unfold filled
  split
  · exact ⟨by decide, by decide⟩
  · exact h
set_option maxRecDepth 100000 in
set_option maxHeartbeats 4000000 in
theorem walk_AnswerPuts (W : World) (c0 : Array Value) (x0 : (Int × (List Str))) (h0 : (RTwo 1 (RInt .i64) (RSl 1 RStr)) W (Ahead W.heap.size) c0.toList x0) (v1 : Value) (x1 : Str) (h1 : RStr W (Ahead W.heap.size) [v1] x1) : Calls Try.prog 6 #[.agg c0, v1] W fun e w' => e = .returned (.bool true) ∧ Fr No W w' := by
  obtain ⟨h1a, h1b⟩ := h1
  injection h1a with h1a _
  subst h1a
  unfold maxLen at h1b
  obtain ⟨n, L⟩ := x0
  obtain ⟨v, hc0, hn, hv⟩ := rep_open h0
  simp only at hc0 hn hv
  subst hc0
  obtain ⟨A, c, rfl, hc1, hc2⟩ := hv.slice
  unfold maxLen at hc2
  obtain ⟨bx, hbx⟩ : ∃ bx, W.heap.size = bx := ⟨_, rfl⟩
  have X0 := Lib.hid (Blk.new W 36 #[.int .i64 n, .slice A L.length c])
  rw [hbx] at X0
  have F0 := Lib.hid ((Fr.refl No W).alloc (.cells #[.int .i64 n, .slice A L.length c] 36))
  have H0 := Lib.hid hv
  have HS0 := Lib.hid (show ∀ k, Ahead W.heap.size k → k < W.heap.size from fun k hk => hk)
  have HN := Lib.hid hn
  clear h0 hv hn
  go_enter Try.func6, Try.ntmps6
  go_wp2_with fail
  obtain ⟨w1, hw1⟩ : ∃ w1, W.alloc (.cells #[.int .i64 n, .slice A L.length c] 36) = w1 := ⟨_, rfl⟩
  rw [hw1] at X0 F0 ⊢
  clear hw1
  have H1 := Lib.hid (str_keep H0.out F0.out HS0.out)
  have HS1 := Lib.hid (fun k hk => Nat.lt_of_lt_of_le (HS0.out k hk) F0.out.size)
  clear hbx H0 HS0
  refine (small_any n _ L _ _ HS1.out H1.out).mono ?_
  rintro e w2 ⟨rfl, hf⟩
  have F2 := Lib.hid (F0.out.then_no hf)
  have X2 := Lib.hid (X0.out.fr hf (fun h => h))
  have H2 := Lib.hid (str_keep H1.out hf HS1.out)
  have HS2 := Lib.hid (fun k hk => Nat.lt_of_lt_of_le (HS1.out k hk) hf.size)
  clear hf F0 X0 H1 HS1
  have q0 := X2.out.cell 0
  have q1 := X2.out.cell 1
  simp only [List.getElem?_toArray, List.getElem?_cons_zero, List.getElem?_cons_succ] at q0 q1
  cases hsm : smallR L with
  | false =>
    clear hsm
    go_wp2_with fail
    refine (works_any _).mono ?_
    rintro e w3 ⟨rfl, hf⟩
    have F3 := Lib.hid (F2.out.then_no hf)
    clear hf
    go_wp2_with fail
    go_ret
    exact ⟨rfl, F3.out⟩
  | true =>
    have HO := Lib.hid (small_ok hsm)
    clear hsm
    by_cases h100 : 100 < x1.length
    · go_wp2_with fail
      refine (works_any _).mono ?_
      rintro e w3 ⟨rfl, hf⟩
      have F3 := Lib.hid (F2.out.then_no hf)
      clear hf
      go_wp2_with fail
      go_ret
      exact ⟨rfl, F3.out⟩
    · have h100' : x1.length ≤ 100 := by omega
      go_wp2_with fail
      refine (put_any n _ L _ _ HS2.out H2.out HO.out HN.out).mono ?_
      unfold PutPost
      rintro e w3 ⟨rfl, hf⟩
      have F3 := Lib.hid (F2.out.then_no hf)
      have X3 := Lib.hid (X2.out.fr hf (fun h => h))
      have H3 := Lib.hid (str_keep H2.out hf HS2.out)
      have HS3 := Lib.hid (fun k hk => Nat.lt_of_lt_of_le (HS2.out k hk) hf.size)
      clear hf F2 X2 H2 HS2 q0 q1
      have q0 := X3.out.cell 0
      have q1 := X3.out.cell 1
      simp only [List.getElem?_toArray, List.getElem?_cons_zero, List.getElem?_cons_succ] at q0 q1
      obtain ⟨⟨z, cd⟩, hz⟩ : ∃ p, putA (n, L) = p := ⟨_, rfl⟩
      have HZ := Lib.hid hz
      rw [hz]
      clear hz
      go_wp2_with fail
      refine (rputA_any n _ L _ _ HS3.out H3.out HO.out HN.out).mono ?_
      unfold PutPost
      rw [HZ.out]
      rintro e w4 ⟨rfl, hf⟩
      have F4 := Lib.hid (F3.out.then_no hf)
      have X4 := Lib.hid (X3.out.fr hf (fun h => h))
      have H4 := Lib.hid (str_keep H3.out hf HS3.out)
      have HS4 := Lib.hid (fun k hk => Nat.lt_of_lt_of_le (HS3.out k hk) hf.size)
      clear hf F3 X3 H3 HS3 q0 q1
      have q0 := X4.out.cell 0
      have q1 := X4.out.cell 1
      have q4 := X4.out.lt
      simp only [List.getElem?_toArray, List.getElem?_cons_zero, List.getElem?_cons_succ] at q0 q1
      have hzz : (z == z) = true := by simp
      have hcc : (cd != cd) = false := by simp
      rcases putA_cases HZ.out with ⟨h1, hn9, h2⟩ | ⟨h1, h2⟩
      · subst h1
        have HR := Lib.hid (show readA (z ++ x1) = ((n, filled L), z.length, 0) by
          have hfl := filled_len HO.out
          have h := read_back hn9 x1 (filled L) (z ++ x1).length.succ [] 0 [] (filled_ne L) (by
            have h3 : ∀ M : List Str, M.length ≤ (putB n M).length := by
              intro M
              induction M with
              | nil => simp
              | cons s t ih =>
                show _ ≤ (row n (if t = [] then 32 else 45) s ++ putB n t).length
                rw [List.length_append, List.length_cons]
                have : 1 ≤ (row n (if t = [] then 32 else 45) s).length := by unfold row; simp; omega
                omega
            have := h3 (filled L)
            rw [List.length_append, h2]
            omega) (.inl rfl) (by have := hfl.1; simp; omega)
          unfold readA
          rw [h2]
          rw [h2] at h
          simpa using h)
        have hzl : z.length ≤ 24360 := by
          have hfl := filled_len HO.out
          have := putB_len hn9 (filled L) hfl.2
          rw [h2]
          have := hfl.1
          omega
        have HN9 := Lib.hid hn9
        clear h2 hn9
        have hba : (⟨z.toArray⟩ : ByteArray) ++ ⟨x1.toArray⟩ = ⟨(z ++ x1).toArray⟩ := by rw [ba_app]
        go_wp2_with fail
        refine (read_any (z ++ x1) _ (by simp; omega)).mono ?_
        unfold ReadPost
        rw [HR.out]
        rintro e w5 ⟨v5, rfl, hr, hf⟩
        obtain ⟨A5, c5, rfl, -, -⟩ := hr.slice
        have F5 := Lib.hid (F4.out.then_no hf)
        have X5 := Lib.hid (X4.out.fr hf (fun h => h))
        have H5 := Lib.hid (str_keep H4.out hf HS4.out)
        have HS5 := Lib.hid (fun k hk => Nat.lt_of_lt_of_le (HS4.out k hk) hf.size)
        have R5 := Lib.hid hr
        have q5 := X5.out.lt
        clear hf F4 X4 H4 HS4 q0 q1 q4 hr hba
        have q0 := X5.out.cell 0
        have q1 := X5.out.cell 1
        simp only [List.getElem?_toArray, List.getElem?_cons_zero, List.getElem?_cons_succ] at q0 q1
        have hne : bx ≠ w5.heap.size := by omega
        have E6 := Lib.hid ((Fr.refl No w5).alloc (.cells #[.int .i64 n, .slice A5 (filled L).length c5] 36))
        have R6 := Lib.hid (strs_go R5.out (S' := fun k => k < (w5.alloc (.cells #[.int .i64 n, .slice A5 (filled L).length c5] 36)).heap.size) (Kept.of_no E6.out (fun k hk => hk.2)) (fun k hk => Nat.lt_of_lt_of_le hk.2 E6.out.size))
        have H6 := Lib.hid (strs_go H5.out (S' := fun k => k < (w5.alloc (.cells #[.int .i64 n, .slice A5 (filled L).length c5] 36)).heap.size) (Kept.of_no E6.out HS5.out) (fun k hk => Nat.lt_of_lt_of_le (HS5.out k hk) E6.out.size))
        have F6 := Lib.hid (F5.out.then_no E6.out)
        have hidem : filled (filled L) = filled L := by
          show (if filled L = [] then [[]] else filled L) = filled L
          rw [if_neg (filled_ne L)]
        obtain ⟨M, hM⟩ : ∃ M, filled L = M := ⟨_, rfl⟩
        have HFF := Lib.hid (show filled M = filled L by rw [← hM, hidem])
        clear hidem
        rw [hM] at R6 F6 H6 ⊢
        clear hM
        clear E6 R5 H5 HS5 F5 X5 HR
        go_wp2_with fail
        refine (same_yes n _ _ M L _ _ (fun k hk => hk) R6.out H6.out HFF.out).mono ?_
        rintro e w7 ⟨rfl, hf⟩
        have F7 := Lib.hid (F6.out.then_no hf)
        clear hf
        go_wp2_with fail
        refine (works_any _).mono ?_
        rintro e w8 ⟨rfl, hf⟩
        have F8 := Lib.hid (F7.out.then_no hf)
        clear hf
        go_wp2_with fail
        go_ret
        exact ⟨rfl, F8.out⟩
      · subst h2
        have h1b : (cd != 0) = true := by simpa using h1
        clear h1
        go_wp2_with fail
        refine (works_any _).mono ?_
        rintro e w5 ⟨rfl, hf⟩
        have F5 := Lib.hid (F4.out.then_no hf)
        clear hf
        go_wp2_with fail
        go_ret
        exact ⟨rfl, F5.out⟩
end Ans
end Go.Proofs.Ytjelndobekcbmaa
