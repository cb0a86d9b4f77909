/- Mark: the law of lines. Printed by gen_markm.py. -/
import Derived.Test.YtjelndobekcbmaaMarkN
import Derived.Test.YtjelndobekcbmaaMarkS
namespace Go.Proofs.Ytjelndobekcbmaa
open Go.RowKit
set_option linter.unusedVariables false
set_option linter.unusedSimpArgs false
namespace Mark
open Digit Clock Sls
theorem flat_take {α β : Type} (l : List α) (f : α → List β) (k : Nat) : ((l.take k).flatMap f).length ≤ (l.flatMap f).length := by
  conv => rhs; rw [← List.take_append_drop k l]
  rw [List.flatMap_append, List.length_append]
  omega
theorem str_keep {w w' : World} {S : Nat → Prop} {v : Value} {L : List Str} (h : RSl 1 RStr w S [v] L) (hf : Fr No w w') (hS : ∀ k, S k → k < w.heap.size) : RSl 1 RStr w' S [v] L := strs_go h (Kept.of_no hf hS) (fun k hk => hk)
theorem its_keep {w w' : World} {S : Nat → Prop} {v : Value} {L : List It} (h : RSl 3 RIt w S [v] L) (hf : Fr No w w') (hS : ∀ k, S k → k < w.heap.size) : RSl 3 RIt w' S [v] L := (RSl.stable stable_it).go h (Kept.of_no hf hS) (fun k hk => hk)
set_option maxRecDepth 100000 in
set_option maxHeartbeats 4000000 in
theorem walk_MarkLines (W : World) (v0 : Value) (x0 : (List (Int × (Int × Str)))) (h0 : (RSl 3 (RTwo 1 (RInt .i64) (RTwo 1 (RInt .i64) RStr))) W (Ahead W.heap.size) [v0] x0) : Calls Try.prog 5 #[v0] W fun e w' => e = .returned (.bool true) ∧ Fr No W w' := by
  have H0 := Lib.hid h0
  clear h0
  go_enter Try.func5, Try.ntmps5
  go_wp2_with fail
  refine (few_any _ _ _ _ (fun k hk => hk) H0.out).mono ?_
  rintro e w1 ⟨v, m, rfl, hm, hl, hok, hf⟩
  obtain ⟨A, c, rfl, hc1, hc2⟩ := hm.slice
  have H1 := Lib.hid hm
  have HS := Lib.hid (show ∀ k, New W w1 k → k < w1.heap.size from fun k hk => hk.2)
  have HO := Lib.hid hok
  have HFM := Lib.hid (fewl_of (by omega) hok)
  have F1 := Lib.hid hf
  unfold maxLen at hc2
  clear hm hok hf H0
  go_wp2_with fail
  go_loopw [3] (fun i wr => ∃ k : Nat, i = .int .i64 k ∧ k ≤ m.length ∧ Hid (∀ j (h : j < m.length), j < k → 0 ≤ m[j].2.1 ∧ m[j].2.1 ≤ lastT) ∧ Hid (Fr No w1 wr)) (fun i _ => m.length - (intOf i).toNat)
  case atStart => exact ⟨0, rfl, by omega, (fun j h hj => absurd hj (by omega)), Fr.refl _ _⟩
  case round =>
    obtain ⟨k, rfl, hk, HR, E⟩ := hrel
    by_cases hlt : k < m.length
    · obtain ⟨ad, kd, n, s, rfl, hx, c0, c1, c2, -⟩ := it_at H1.out HS.out E.out hlt
      by_cases hn : 0 ≤ n ∧ n ≤ 252455615999
      · obtain ⟨hn0, hn1⟩ := hn
        have HR2 := Lib.hid (show ∀ j (h : j < m.length), j < k + 1 → 0 ≤ m[j].2.1 ∧ m[j].2.1 ≤ lastT from fun j h hj => by
          by_cases e : j = k
          · subst e; rw [hx]; exact ⟨hn0, hn1⟩
          · exact HR.out j h (by omega))
        clear hx
        go_wp2_with fail
        go_roundw
        case rel => exact ⟨k + 1, by go_num, by omega, HR2.out, E.out⟩
        case measure => simp [intOf]; omega
      · have F2 := Lib.hid (F1.out.then_no E.out)
        clear hx
        by_cases hneg : n < 0
        · go_wp2_with fail
          refine (works_any _).mono ?_
          rintro e w2 ⟨rfl, hf⟩
          have F3 := Lib.hid (F2.out.then_no hf)
          clear hf
          go_wp2_with fail
          go_ret
          exact ⟨rfl, F3.out⟩
        · have hbig : 252455615999 < n := by omega
          have hn0 : 0 ≤ n := by omega
          go_wp2_with fail
          refine (works_any _).mono ?_
          rintro e w2 ⟨rfl, hf⟩
          have F3 := Lib.hid (F2.out.then_no hf)
          clear hf
          go_wp2_with fail
          go_ret
          exact ⟨rfl, F3.out⟩
    · have HRA := Lib.hid (show ∀ x ∈ m, 0 ≤ x.2.1 ∧ x.2.1 ≤ lastT from fun x hx => by
        obtain ⟨j, hj, rfl⟩ := List.getElem_of_mem hx
        exact HR.out j hj (by omega))
      obtain ⟨w2, hw2⟩ : ∃ w2, w2 = wr := ⟨_, rfl⟩
      subst hw2
      have F2 := Lib.hid (F1.out.then_no E.out)
      have H2 := Lib.hid (its_keep H1.out E.out HS.out)
      have HS2 := Lib.hid (show ∀ k, New W w1 k → k < w2.heap.size from fun k hk => Nat.lt_of_lt_of_le hk.2 E.out.size)
      clear E H1 HS HR F1
      go_wp2_with fail
      refine (all_any _ m _ _ HS2.out H2.out HFM.out).mono ?_
      rintro e w3 ⟨rfl, hf⟩
      have F3 := Lib.hid (F2.out.then_no hf)
      have H3 := Lib.hid (its_keep H2.out hf HS2.out)
      have HS3 := Lib.hid (show ∀ k, New W w1 k → k < w3.heap.size from fun k hk => Nat.lt_of_lt_of_le (HS2.out k hk) hf.size)
      have hzl := all_max HFM.out m.length
      rw [List.take_length] at hzl
      have HLN := Lib.hid (lines_lin m HRA.out)
      clear hf F2 H2 HS2
      generalize (allR m).1 = z at hzl HLN ⊢
      go_wp2_with fail
      refine (rlines_any z _ (by omega)).mono ?_
      rintro e w4 ⟨u4, rfl, hr, hf⟩
      obtain ⟨L, hL⟩ : ∃ L, linesR z = L := ⟨_, rfl⟩
      rw [hL] at hr HLN
      obtain ⟨B, d, rfl, hd1, hd2⟩ := hr.slice
      have R4 := Lib.hid hr
      have F4 := Lib.hid (F3.out.then_no hf)
      have H4 := Lib.hid (its_keep H3.out hf HS3.out)
      have HS4 := Lib.hid (show ∀ k, New W w1 k → k < w4.heap.size from fun k hk => Nat.lt_of_lt_of_le (HS3.out k hk) hf.size)
      unfold maxLen at hd2
      clear hr hf hL F3 H3 HS3
      go_wp2_with fail
      go_loopw [5] (fun i wr => ∃ k : Nat, i = .int .i64 k ∧ k ≤ L.length ∧ Hid (Fr No w4 wr)) (fun i _ => L.length - (intOf i).toNat)
      case atStart => exact ⟨0, rfl, by omega, Fr.refl _ _⟩
      case round =>
        obtain ⟨k, rfl, hk, E⟩ := hrel
        by_cases hlt : k < L.length
        · obtain ⟨A', cap', e', -, -, hel⟩ := (str_keep R4.out E.out (fun k hk => hk.2)).strs
          injection e' with e1 e2 e3
          subst e1 e3
          obtain ⟨bd, rfl, -, cz, hzm⟩ := hel k hlt
          have hlin := HLN.out _ (List.getElem_mem hlt)
          have hlen := hlin.len
          obtain ⟨ha0, ha20⟩ := hlin.at
          obtain ⟨y, hy⟩ : ∃ y, L[k] = y := ⟨_, rfl⟩
          rw [hy] at cz hlen ha0 ha20 hzm
          unfold maxLen at hzm
          have hix : (⟨y.toArray⟩ : ByteArray)[0]'(by simp [ByteArray.size]; omega) = 91 := by
            rw [List.getElem?_eq_getElem (by omega)] at ha0
            injection ha0
          have hsl := fun W : World => slice_str (P := Try.prog) W 9 Try.underlying9 y 20 22 20 22 rfl rfl (by omega) (by omega)
          rw [show 22 - 20 = 2 from rfl, ha20] at hsl
          clear ha0 ha20 hy hel hlin
          go_wp2_with fail
          go_roundw
          case rel => exact ⟨k + 1, by go_num, by omega, E.out⟩
          case measure => simp [intOf]; omega
        · obtain ⟨w5, hw5⟩ : ∃ w5, w5 = wr := ⟨_, rfl⟩
          subst hw5
          have F5 := Lib.hid (F4.out.then_no E.out)
          have H5 := Lib.hid (its_keep H4.out E.out HS4.out)
          have HS5 := Lib.hid (show ∀ k, New W w1 k → k < w5.heap.size from fun k hk => Nat.lt_of_lt_of_le (HS4.out k hk) E.out.size)
          clear E F4 H4 HS4 R4 HLN
          go_wp2_with fail
          go_loopw [6, 7] (fun u i wr => ∃ (k : Nat) (D : List It) (j : Nat), i = .int .i64 k ∧ k ≤ m.length ∧ j ≤ k ∧ Hid (j = D.length) ∧ Hid (D = (m.take k).filter (fun x => x.1 == 1)) ∧ Hid (GrIt w5 wr u D)) (fun _ i _ => m.length - (intOf i).toNat)
          case atStart => exact ⟨0, [], 0, rfl, by omega, by omega, rfl, rfl, Grow.start _ _ _ _⟩
          case round =>
            obtain ⟨k, D, j, rfl, hk, hj, HJ, HD, G⟩ := hrel
            obtain ⟨B2, d2, hu⟩ := G.out.form
            rw [← HJ.out] at hu
            subst hu
            by_cases hlt : k < m.length
            · obtain ⟨ad, kd, n, s, rfl, hx, c0, c1, c2, -⟩ := it_at H5.out HS5.out G.out.fr hlt
              have G1 := Lib.hid (show wr.ownsRow 0 26 3 (.slice B2 j d2) j (D.flatMap encIt) from by have := G.out.own; rw [← HJ.out] at this; exact this)
              by_cases h1 : kd = 1
              · subst h1
                have HD2 := Lib.hid (show D ++ [(1, n, s)] = (m.take (k + 1)).filter (fun x => x.1 == 1) by rw [take_snoc m k hlt, List.filter_append, ← HD.out, hx]; rfl)
                clear hx
                go_wp2_with (at_builtin; go_loud (refine wp_push rfl (.tmp 77) (.tmp 82) 22 rfl 26 (.agg #[.int .i64 0, .int .i64 0, .string ByteArray.empty]) 3 32 Try.underlying22 infoIt rfl (by decide) (.slice B2 j d2) _ _ rfl G1.out #[.int .i64 1, .int .i64 n, .string ⟨s.toArray⟩] rfl rfl (by intro u hu; simp at hu; rcases hu with rfl | rfl | rfl <;> rfl) (by omega) (by unfold maxLen; omega) ?_; intro g4 cap4 w6 p1 p2 p3; have P1 := Lib.hid p1; have P2 := Lib.hid p2; have P3 := Lib.hid p3; clear p1 p2 p3))
                go_roundw
                case rel => exact ⟨k + 1, D ++ [(1, n, s)], j + 1, by go_num, by omega, by omega, (show j + 1 = _ by rw [HJ.out]; simp), HD2.out, (by
                  have e := HJ.out
                  have g := G.out
                  have p1 := P1.out
                  have p2 := P2.out
                  have p3 := P3.out
                  subst e
                  exact g.push (x := (1, n, s)) p1 p2 p3)⟩
                case measure => simp [intOf]; omega
              · have h1b : ((kd : Int) == 1) = false := by simpa using h1
                have HD2 := Lib.hid (show D = (m.take (k + 1)).filter (fun x => x.1 == 1) by rw [take_snoc m k hlt, List.filter_append, ← HD.out, hx]; simp [h1])
                clear hx h1
                go_wp2_with fail
                go_roundw
                case rel => exact ⟨k + 1, D, j, by go_num, by omega, by omega, HJ.out, HD2.out, G.out⟩
                case measure => simp [intOf]; omega
            · have hDm : D = m.filter (fun x => x.1 == 1) := by rw [HD.out, List.take_of_length_le (by omega)]
              have hDI : ∀ x ∈ D, x ∈ m ∧ x.1 = 1 := fun x hx => by
                rw [hDm] at hx
                obtain ⟨h1, h2⟩ := List.mem_filter.1 hx
                exact ⟨h1, by simpa using h2⟩
              have HT := Lib.hid (show backR (lnF ([], []) (allR D).1) = toldR m by
                rw [back_all D (fun x hx => HRA.out x (hDI x hx).1) (fun x hx => (hDI x hx).2), hDm, told_filter])
              have HLD := Lib.hid (lines_lin D (fun x hx => HRA.out x (hDI x hx).1))
              have HFD := Lib.hid (fewl_of (l := D) (by have := HJ.out; omega) (fun x hx => HO.out x (hDI x hx).1))
              have HGD := Lib.hid (gr_sl G.out (fun x hx => HO.out x (hDI x hx).1))
              have F6 := Lib.hid (F5.out.then_no G.out.fr)
              have H6 := Lib.hid (its_keep H5.out G.out.fr HS5.out)
              have HS6 := Lib.hid (show ∀ k, New W w1 k → k < wr.heap.size from fun k hk => Nat.lt_of_lt_of_le (HS5.out k hk) G.out.fr.size)
              clear G HD hDm hDI F5 H5 HS5
              obtain ⟨w6, hw6⟩ : ∃ w6, w6 = wr := ⟨_, rfl⟩
              subst hw6
              go_wp2_with fail
              refine (all_any _ D _ _ (fun k hk => hk.2) HGD.out HFD.out).mono ?_
              rintro e w7 ⟨rfl, hf⟩
              have F7 := Lib.hid (F6.out.then_no hf)
              have H7 := Lib.hid (its_keep H6.out hf HS6.out)
              have HS7 := Lib.hid (show ∀ k, New W w1 k → k < w7.heap.size from fun k hk => Nat.lt_of_lt_of_le (HS6.out k hk) hf.size)
              have hyl := all_max HFD.out D.length
              rw [List.take_length] at hyl
              clear hf F6 H6 HS6
              generalize (allR D).1 = y at hyl HLD HT ⊢
              go_wp2_with fail
              refine (rlines_any y _ (by omega)).mono ?_
              rintro e w8 ⟨u8, rfl, hr, hf⟩
              have HT := Lib.hid (show (linesR y).flatMap (fun z => z.drop 22) = toldR m by rw [back_lines, HT.out])
              obtain ⟨M, hM⟩ : ∃ M, linesR y = M := ⟨_, rfl⟩
              rw [hM] at hr HLD HT
              obtain ⟨B8, d8, rfl, he1, he2⟩ := hr.slice
              have R8 := Lib.hid hr
              have F8 := Lib.hid (F7.out.then_no hf)
              have H8 := Lib.hid (its_keep H7.out hf HS7.out)
              have HS8 := Lib.hid (show ∀ k, New W w1 k → k < w8.heap.size from fun k hk => Nat.lt_of_lt_of_le (HS7.out k hk) hf.size)
              have htm : (toldR m).length ≤ 4000 := by have := told_len HFM.out m.length; rw [List.take_length] at this; exact this
              unfold maxLen at he2
              clear hr hf hM F7 H7 HS7
              go_wp2_with fail
              go_loopw [8, 10] (fun z i wr => ∃ (k : Nat) (t : Str), i = .int .i64 k ∧ z = .string ⟨t.toArray⟩ ∧ k ≤ M.length ∧ Hid (t = (M.take k).flatMap (fun z => z.drop 22)) ∧ Hid (Fr No w8 wr)) (fun _ i _ => M.length - (intOf i).toNat)
              case atStart => exact ⟨0, [], rfl, rfl, by omega, rfl, Fr.refl _ _⟩
              case round =>
                obtain ⟨k, t, rfl, rfl, hk, HTK, E⟩ := hrel
                have htl : t.length ≤ 4000 := by
                  have h1 := flat_take M (fun z : Str => z.drop 22) k
                  rw [HT.out, ← HTK.out] at h1
                  omega
                by_cases hlt : k < M.length
                · obtain ⟨A', cap', e', -, -, hel⟩ := (str_keep R8.out E.out (fun k hk => hk.2)).strs
                  injection e' with e1 e2 e3
                  subst e1 e3
                  obtain ⟨bd, rfl, -, cz, hzm⟩ := hel k hlt
                  have hlen := (HLD.out _ (List.getElem_mem hlt)).len
                  have hb2 := flat_take M (fun z : Str => z.drop 22) (k + 1)
                  rw [HT.out] at hb2
                  have HTN := Lib.hid (show t ++ M[k].drop 22 = (M.take (k + 1)).flatMap (fun z => z.drop 22) by rw [take_snoc M k hlt, List.flatMap_append, ← HTK.out]; simp)
                  rw [← HTN.out, List.length_append] at hb2
                  obtain ⟨x, hx⟩ : ∃ x, M[k] = x := ⟨_, rfl⟩
                  rw [hx] at cz hlen hzm HTN hb2
                  unfold maxLen at hzm
                  have hsl := fun W : World => slice_from (P := Try.prog) W 9 Try.underlying9 x 22 22 rfl (by omega)
                  generalize x.drop 22 = r at hsl HTN hb2
                  clear hx hel
                  go_wp2_with fail
                  go_roundw
                  case rel => exact ⟨k + 1, t ++ r, by go_num, by first | rfl | rw [ba_append], by omega, (show t ++ r = _ by rw [HTN.out]), E.out⟩
                  case measure => simp [intOf]; omega
                · have HTE := Lib.hid (show t = toldR m by rw [HTK.out, List.take_of_length_le (by omega), HT.out])
                  have F9 := Lib.hid (F8.out.then_no E.out)
                  have H9 := Lib.hid (its_keep H8.out E.out HS8.out)
                  have HS9 := Lib.hid (show ∀ k, New W w1 k → k < wr.heap.size from fun k hk => Nat.lt_of_lt_of_le (HS8.out k hk) E.out.size)
                  clear E F8 H8 HS8 R8 HTK HT
                  go_wp2_with fail
                  refine (told_any _ m _ _ HS9.out H9.out HFM.out).mono ?_
                  rintro e w10 ⟨rfl, hf⟩
                  rw [← HTE.out]
                  have F10 := Lib.hid (F9.out.then_no hf)
                  clear hf
                  go_wp2_with fail
                  refine (works_any _).mono ?_
                  rintro e w11 ⟨rfl, hf⟩
                  have F11 := Lib.hid (F10.out.then_no hf)
                  clear hf
                  go_wp2_with fail
                  go_ret
                  exact ⟨rfl, F11.out⟩
end Mark
end Go.Proofs.Ytjelndobekcbmaa
