/- Answer: the law of what is cut off. Printed by gen_ansk.py. -/
import Derived.Test.YtjelndobekcbmaaAnsL
namespace Go.Proofs.Ytjelndobekcbmaa
open Go.RowKit
set_option linter.unusedVariables false
set_option linter.unusedSimpArgs false
namespace Ans
open Digit Sls
theorem u16_nat {n : Int} (h : (Lit.int .u16 n).wf = true) : ∃ a : Nat, n = a ∧ a < 65536 := by
  have h' : 0 ≤ n ∧ n ≤ 65535 := by simpa [Lit.wf, IntKind.min, IntKind.max, IntKind.signed, IntKind.bits] using h
  exact ⟨n.toNat, by omega, by omega⟩
set_option maxRecDepth 100000 in
set_option maxHeartbeats 4000000 in
theorem walk_AnswerCut (W : World) (c0 : Array Value) (x0 : (Int × (List Str))) (h0 : (RTwo 1 (RInt .i64) (RSl 1 RStr)) W (Ahead W.heap.size) c0.toList x0) (v1 : Value) (x1 : Int) (h1 : (RInt .u16) W (Ahead W.heap.size) [v1] x1) : Calls Try.prog 7 #[.agg c0, v1] W fun e w' => e = .returned (.bool true) ∧ Fr No W w' := by
  obtain ⟨h1a, h1b⟩ := h1
  injection h1a with h1a _
  subst h1a
  obtain ⟨q, rfl, hq⟩ := u16_nat h1b
  clear h1b
  obtain ⟨n, L⟩ := x0
  obtain ⟨v, hc0, hn, hv⟩ := rep_open h0
  simp only at hc0 hn hv
  subst hc0
  obtain ⟨A, c, rfl, hc1, hc2⟩ := hv.slice
  unfold maxLen at hc2
  obtain ⟨bx, hbx⟩ : ∃ bx, W.heap.size = bx := ⟨_, rfl⟩
  have X0 := Lib.hid (Blk.new W 36 #[.int .i64 n, .slice A L.length c])
  rw [hbx] at X0
  have F0 := Lib.hid ((Fr.refl No W).alloc (.cells #[.int .i64 n, .slice A L.length c] 36))
  have H0 := Lib.hid hv
  have HS0 := Lib.hid (show ∀ k, Ahead W.heap.size k → k < W.heap.size from fun k hk => hk)
  have HN := Lib.hid hn
  clear h0 hv hn
  go_enter Try.func7, Try.ntmps7
  go_wp2_with fail
  obtain ⟨w1, hw1⟩ : ∃ w1, W.alloc (.cells #[.int .i64 n, .slice A L.length c] 36) = w1 := ⟨_, rfl⟩
  rw [hw1] at X0 F0 ⊢
  clear hw1
  have H1 := Lib.hid (str_keep H0.out F0.out HS0.out)
  have HS1 := Lib.hid (fun k hk => Nat.lt_of_lt_of_le (HS0.out k hk) F0.out.size)
  clear hbx H0 HS0
  refine (small_any n _ L _ _ HS1.out H1.out).mono ?_
  rintro e w2 ⟨rfl, hf⟩
  have F2 := Lib.hid (F0.out.then_no hf)
  have X2 := Lib.hid (X0.out.fr hf (fun h => h))
  have H2 := Lib.hid (str_keep H1.out hf HS1.out)
  have HS2 := Lib.hid (fun k hk => Nat.lt_of_lt_of_le (HS1.out k hk) hf.size)
  clear hf F0 X0 H1 HS1
  have q0 := X2.out.cell 0
  have q1 := X2.out.cell 1
  simp only [List.getElem?_toArray, List.getElem?_cons_zero, List.getElem?_cons_succ] at q0 q1
  cases hsm : smallR L with
  | false =>
    clear hsm
    go_wp2_with fail
    refine (works_any _).mono ?_
    rintro e w3 ⟨rfl, hf⟩
    have F3 := Lib.hid (F2.out.then_no hf)
    clear hf
    go_wp2_with fail
    go_ret
    exact ⟨rfl, F3.out⟩
  | true =>
    have HO := Lib.hid (small_ok hsm)
    clear hsm
    go_wp2_with fail
    refine (put_any n _ L _ _ HS2.out H2.out HO.out HN.out).mono ?_
    unfold PutPost
    rintro e w3 ⟨rfl, hf⟩
    have F3 := Lib.hid (F2.out.then_no hf)
    clear hf F2 X2 H2 HS2 q0 q1
    obtain ⟨⟨z, cd⟩, hz⟩ : ∃ p, putA (n, L) = p := ⟨_, rfl⟩
    have HZ := Lib.hid hz
    rw [hz]
    clear hz
    rcases putA_cases HZ.out with ⟨h1, hn9, h2⟩ | ⟨h1, h2⟩
    · subst h1
      have hfl := filled_len HO.out
      have hzl : z.length ≤ 24360 := by
        have := putB_len hn9 (filled L) hfl.2
        rw [h2]
        have := hfl.1
        omega
      have hz0 : 0 < z.length := by
        rw [h2]
        cases hc : filled L with
        | nil => exact absurd hc (filled_ne L)
        | cons s t =>
          show 0 < (row n (if t = [] then 32 else 45) s ++ putB n t).length
          rw [List.length_append]
          have : 1 ≤ (row n (if t = [] then 32 else 45) s).length := by unfold row; simp; omega
          omega
      have HOK := Lib.hid (show ∀ i, i < z.length → okAt z i from by rw [h2]; exact put_ok hn9 (filled L))
      obtain ⟨k, hk⟩ : ∃ k, q % z.length = k := ⟨_, rfl⟩
      have hkl : k < z.length := by rw [← hk]; exact Nat.mod_lt _ hz0
      have hmod : (q : Int) % (z.length : Int) = (k : Int) := by rw [← hk]; simp
      have HR := Lib.hid (show readA (z.take k) = ((0, []), 0, 13) by
        have h := read_cut hn9 (filled L) ((z.take k).length + 1) [] 0 [] k (.inl rfl) (by have := hfl.1; simp; omega) (by rw [← h2]; exact hkl)
        unfold readA
        rw [← h2] at h
        exact h)
      have hne : z.isEmpty = false := by cases z; simp at hz0; rfl
      have hne2 : (z == []) = false := by cases z; simp at hz0; rfl
      have hst := fun W : World => Sls.slice_to (P := Try.prog) W 9 Try.underlying9 z k k rfl (by omega)
      have htl : (z.take k).length ≤ 24360 := by rw [List.length_take]; omega
      obtain ⟨y, hy⟩ : ∃ y, z.take k = y := ⟨_, rfl⟩
      rw [hy] at hst HR htl
      clear h2 hk hy hfl
      go_wp2_with fail
      refine (read_any y _ (by omega)).mono ?_
      unfold ReadPost
      rw [HR.out]
      rintro e w5 ⟨v5, rfl, hr, hf⟩
      obtain ⟨A5, c5, rfl, -, -⟩ := hr.slice
      have F5 := Lib.hid ((F3.out.then_no hf).alloc (.cells #[.int .i64 0, .slice A5 ([] : List Str).length c5] 36))
      clear hf hr F3 HR hst
      go_wp2_with fail
      go_loop [11] (fun i => ∃ k : Nat, i = .int .i64 k ∧ k ≤ z.length) (fun i => z.length - (intOf i).toNat)
      case atStart => exact ⟨0, rfl, by omega⟩
      case round =>
        obtain ⟨i, rfl, hi⟩ := hrel
        by_cases hlt : i < z.length
        · rcases HOK.out i hlt with ⟨g1, g2⟩ | ⟨g1, g2, g3⟩ | ⟨ch, g1, g2, g3⟩
          · have hlt2 : i + 1 < z.length := (List.getElem?_eq_some_iff.1 g2).1
            have hix : (⟨z.toArray⟩ : ByteArray)[i]'(by simpa [ByteArray.size] using hlt) = 13 := by rw [List.getElem?_eq_getElem hlt] at g1; injection g1
            have hix2 : (⟨z.toArray⟩ : ByteArray)[i + 1]'(by simpa [ByteArray.size] using hlt2) = 10 := by rw [List.getElem?_eq_getElem hlt2] at g2; injection g2
            have hl3 : (i : Int) + 1 < (z.length : Int) := by omega
            clear g1 g2
            go_wp2_with fail
            go_round
            case rel => exact ⟨i + 1, by go_num, by omega⟩
            case measure => simp [intOf]; omega
          · have hlt2 : i - 1 < z.length := by omega
            have hix : (⟨z.toArray⟩ : ByteArray)[i]'(by simpa [ByteArray.size] using hlt) = 10 := by rw [List.getElem?_eq_getElem hlt] at g1; injection g1
            have hix2 : (⟨z.toArray⟩ : ByteArray)[i - 1]'(by simpa [ByteArray.size] using hlt2) = 13 := by rw [List.getElem?_eq_getElem hlt2] at g3; injection g3
            have hl3 : (0 : Int) < (i : Int) := by omega
            have hl4 : (1 : Int) ≤ (i : Int) := by omega
            clear g1 g3
            go_wp2_with fail
            go_round
            case rel => exact ⟨i + 1, by go_num, by omega⟩
            case measure => simp [intOf]; omega
          · have hix : (⟨z.toArray⟩ : ByteArray)[i]'(by simpa [ByteArray.size] using hlt) = ch := by rw [List.getElem?_eq_getElem hlt] at g1; injection g1
            have c1 : ((ch.toNat : Int) == 13) = false := by rw [beq_eq_false_iff_ne]; omega
            have c2 : ((ch.toNat : Int) == 10) = false := by rw [beq_eq_false_iff_ne]; omega
            have c3 : ¬ ((ch.toNat : Int) < 32) := by omega
            have c4 : ¬ (126 < (ch.toNat : Int)) := by omega
            clear g1
            go_wp2_with fail
            go_round
            case rel => exact ⟨i + 1, by go_num, by omega⟩
            case measure => simp [intOf]; omega
        · go_wp2_with fail
          refine (works_any _).mono ?_
          rintro e w8 ⟨rfl, hf⟩
          have F8 := Lib.hid (F5.out.then_no hf)
          clear hf
          go_wp2_with fail
          go_ret
          exact ⟨rfl, F8.out⟩
    · subst h2
      have h1b : (cd != 0) = true := by simpa using h1
      clear h1
      go_wp2_with fail
      refine (works_any _).mono ?_
      rintro e w5 ⟨rfl, hf⟩
      have F5 := Lib.hid (F3.out.then_no hf)
      clear hf
      go_wp2_with fail
      go_ret
      exact ⟨rfl, F5.out⟩
end Ans
end Go.Proofs.Ytjelndobekcbmaa
