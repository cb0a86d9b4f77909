/- Mark: the law that tells what items are as text. -/
import Derived.Test.YtjelndobekcbmaaMarkX
import Derived.Test.YtjelndobekcbmaaLaw
namespace Go.Proofs.Ytjelndobekcbmaa
open Go.RowKit
set_option linter.unusedVariables false
set_option linter.unusedSimpArgs false
namespace Mark
open Digit Clock Sls
theorem fewl_of {l : List It} (h : l.length ≤ 40) (hl : ∀ x ∈ l, ItOk x) : Fewl l := ⟨h, fun x hx => by have := (hl x hx).2.2; omega⟩
set_option maxRecDepth 100000 in
set_option maxHeartbeats 4000000 in
theorem walk_MarkTells (W : World) (v0 : Value) (x0 : (List (Int × (Int × Str)))) (h0 : (RSl 3 (RTwo 1 (RInt .i64) (RTwo 1 (RInt .i64) RStr))) W (Ahead W.heap.size) [v0] x0) : Calls Try.prog 4 #[v0] W fun e w' => e = .returned (.bool true) ∧ Fr No W w' := by
  have H0 := Lib.hid h0
  clear h0
  go_enter Try.func4, Try.ntmps4
  go_wp2_with fail
  refine (few_any _ _ _ _ (fun k hk => hk) H0.out).mono ?_
  rintro e w1 ⟨v, m, rfl, hm, hl, hok, hf⟩
  obtain ⟨A, c, rfl, hc1, hc2⟩ := hm.slice
  have H1 := Lib.hid hm
  have HS := Lib.hid (show ∀ k, New W w1 k → k < w1.heap.size from fun k hk => hk.2)
  have HF := Lib.hid (fewl_of (by omega) hok)
  have F1 := Lib.hid hf
  obtain ⟨bm, hbm⟩ : ∃ bm, bm = w1.heap.size := ⟨_, rfl⟩
  have M0 := Lib.hid (Blk.new w1 30 #[.bool false])
  rw [← hbm] at M0
  have E0 := Lib.hid ((Fr.refl No w1).alloc (.cells #[.bool false] 30))
  have HB := Lib.hid hbm
  unfold maxLen at hc2
  clear hm hok hf H0
  go_wp2_with fail
  rw [← HB.out]
  clear hbm
  go_loopw [4, 5] (fun z i wr => ∃ (k : Nat) (acc : Str), i = .int .i64 k ∧ z = .string ⟨acc.toArray⟩ ∧ k ≤ m.length ∧ Hid (acc = (allR (m.take k)).1) ∧ Hid (Blk wr bm 30 #[.bool (opn acc)]) ∧ Hid (Fr No w1 wr)) (fun _ i _ => m.length - (intOf i).toNat)
  case atStart => exact ⟨0, [], rfl, rfl, by omega, rfl, M0.out, E0.out⟩
  case round =>
    clear M0 E0
    obtain ⟨k, acc, rfl, rfl, hk, HA, M, E⟩ := hrel
    by_cases hlt : k < m.length
    · obtain ⟨ad, kd, n, s, rfl, hx, c0, c1, c2, -⟩ := it_at H1.out HS.out E.out hlt
      have hal : acc.length ≤ 570120 := by have := all_max HF.out k; rw [← HA.out] at this; exact this
      have hsl : s.length ≤ 100 := by have := HF.out.2 _ (List.getElem_mem hlt); rw [hx] at this; exact this
      have hdl := add_len (opn acc) (kd, n, s)
      simp only at hdl
      have HN := Lib.hid (show (allR (m.take (k + 1))).1 = acc ++ (addR (opn acc) (kd, n, s)).1 by rw [take_snoc m k hlt, all_snoc, hx]; unfold stepR; rw [← opn_all, ← HA.out])
      have HO := Lib.hid (opn_add acc _ (kd, n, s) rfl)
      clear hx
      go_wp2_with fail
      refine (add_any bm _ kd n s _ M.out hsl).mono ?_
      unfold AddPost
      rintro e w2 ⟨rfl, hb, hf⟩
      have M2 := Lib.hid hb
      have E2 := Lib.hid (E.out.trans hf fun b hb hl => by have hb : b = bm := hb; have := HB.out; omega)
      clear hb hf c0 c1 c2 M E HA
      generalize (addR (opn acc) (kd, n, s)).1 = t at HN hdl HO ⊢
      rw [← HO.out] at M2
      obtain ⟨z, hz⟩ : ∃ z, acc ++ t = z := ⟨_, rfl⟩
      have hba : (⟨acc.toArray⟩ : ByteArray) ++ ⟨t.toArray⟩ = ⟨z.toArray⟩ := by rw [ba_append, hz]
      have hzl : z.length ≤ 600000 := by rw [← hz]; simp; omega
      rw [hz] at HN M2
      clear hz HO
      rcases List.eq_nil_or_concat z with hz | ⟨u, c, hz⟩
      · subst hz
        go_wp2_with fail
        refine (open_any bm false _ M2.out).mono ?_
        rintro e w3 ⟨rfl, rfl⟩
        go_wp2_with fail
        go_roundw
        case rel => exact ⟨k + 1, [], by go_num, rfl, by omega, HN.out.symm, M2.out, E2.out⟩
        case measure => simp [intOf]; omega
      · rw [List.concat_eq_append] at hz
        have hne : z.isEmpty = false := by subst hz; simp
        have hne2 : (!z.isEmpty) = true := by rw [hne]; rfl
        have hl0 : 0 < z.length := by subst hz; simp
        have hix : (⟨z.toArray⟩ : ByteArray)[z.length - 1]'(by simp [ByteArray.size]; omega) = c := by
          show z[z.length - 1]'(by omega) = c
          subst hz; simp
        have HO := Lib.hid (show opn z = (c != 10) by rw [hz, opn_snoc])
        clear hz
        by_cases hc : c = 10
        · subst hc
          have MM := Lib.hid (show Blk w2 bm 30 #[.bool false] by have := M2.out; rw [HO.out] at this; exact this)
          go_wp2_with fail
          refine (open_any bm false _ MM.out).mono ?_
          rintro e w3 ⟨rfl, rfl⟩
          go_wp2_with fail
          go_roundw
          case rel => exact ⟨k + 1, z, by go_num, rfl, by omega, HN.out.symm, M2.out, E2.out⟩
          case measure => simp [intOf]; omega
        · have hc2 : ((c.toNat : Int) != 10) = true := by
            rw [bne_iff_ne]; intro e; exact hc (UInt8.toNat_inj.1 (by show c.toNat = 10; omega))
          have MM := Lib.hid (show Blk w2 bm 30 #[.bool true] by have := M2.out; rw [HO.out, show (c != 10) = true from by rw [bne_iff_ne]; exact hc] at this; exact this)
          clear hc
          go_wp2_with fail
          refine (open_any bm true _ MM.out).mono ?_
          rintro e w3 ⟨rfl, rfl⟩
          go_wp2_with fail
          go_roundw
          case rel => exact ⟨k + 1, z, by go_num, rfl, by omega, HN.out.symm, M2.out, E2.out⟩
          case measure => simp [intOf]; omega
    · have hkm : m.take k = m := List.take_of_length_le (by omega)
      have HV := Lib.hid (show (allR m).1 = acc by rw [HA.out, hkm])
      clear hkm HA
      have F2 := Lib.hid (F1.out.then_no E.out)
      have H2 := Lib.hid ((RSl.stable stable_it).go H1.out (Kept.of_no E.out HS.out) (fun k hk => hk))
      have HS2 := Lib.hid (show ∀ k, New W w1 k → k < wr.heap.size from fun k hk => Nat.lt_of_lt_of_le hk.2 E.out.size)
      have hal : acc.length ≤ 570120 := by have := all_max HF.out m.length; rw [List.take_length, HV.out] at this; exact this
      clear M E HS H1
      go_wp2_with fail
      refine (rall_any _ m _ _ HS2.out H2.out HF.out).mono ?_
      rintro e w2 ⟨rfl, hf⟩
      have F3 := Lib.hid (F2.out.then_no hf)
      have H3 := Lib.hid ((RSl.stable stable_it).go H2.out (Kept.of_no hf HS2.out) (fun k hk => hk))
      have HS3 := Lib.hid (show ∀ k, New W w1 k → k < w2.heap.size from fun k hk => Nat.lt_of_lt_of_le (HS2.out k hk) hf.size)
      rw [HV.out]
      clear hf F2 H2 HS2
      go_wp2_with fail
      refine (all_any _ m _ _ HS3.out H3.out HF.out).mono ?_
      rintro e w4 ⟨rfl, hf⟩
      have F4 := Lib.hid (F3.out.then_no hf)
      have H4 := Lib.hid ((RSl.stable stable_it).go H3.out (Kept.of_no hf HS3.out) (fun k hk => hk))
      have HS4 := Lib.hid (show ∀ k, New W w1 k → k < w4.heap.size from fun k hk => Nat.lt_of_lt_of_le (HS3.out k hk) hf.size)
      rw [HV.out]
      clear hf F3 H3 HS3
      go_wp2_with fail
      refine (told_any _ m _ _ HS4.out H4.out HF.out).mono ?_
      rintro e w5 ⟨rfl, hf⟩
      have F5 := Lib.hid (F4.out.then_no hf)
      have H5 := Lib.hid ((RSl.stable stable_it).go H4.out (Kept.of_no hf HS4.out) (fun k hk => hk))
      have HS5 := Lib.hid (show ∀ k, New W w1 k → k < w5.heap.size from fun k hk => Nat.lt_of_lt_of_le (HS4.out k hk) hf.size)
      clear hf F4 H4 HS4
      obtain ⟨d, hd⟩ : ∃ d, toldR m = d := ⟨_, rfl⟩
      have HD := Lib.hid hd
      rw [hd]
      clear hd
      go_wp2_with fail
      refine (rtold_any _ m _ _ HS5.out H5.out HF.out).mono ?_
      rintro e w6 ⟨rfl, hf⟩
      have F6 := Lib.hid (F5.out.then_no hf)
      rw [HD.out]
      clear hf
      go_wp2_with fail
      refine (works_any _).mono ?_
      rintro e w7 ⟨rfl, hf⟩
      have F7 := Lib.hid (F6.out.then_no hf)
      clear hf
      go_wp2_with fail
      go_ret
      exact ⟨rfl, F7.out⟩
end Mark
end Go.Proofs.Ytjelndobekcbmaa
