/- ReaderReads: whatever it is given, it returns true. Printed by gen_rdo.py. -/
import Derived.Test.YtmmdiccpifepfaaRdN
namespace Go.Proofs.Ytmmdiccpifepfaa
open Go.RowKit
set_option linter.unusedVariables false
set_option linter.unusedSimpArgs false
namespace Rd
open Ans Digit Sls Word
open Mux (run)
theorem wworks (W : World) (w : World) (hf : Fr No W w) : Calls Try.prog 5 #[] w fun e w' => e = .returned (.bool true) ∧ Fr No W w' := (works_any w).mono fun e w' h => ⟨h.1, hf.then_no h.2⟩
theorem run4 (s : Str) : (run 0 [] s).1.1 ≤ 4 := (Mux.run_le s 0 [] (by omega)).1
set_option maxRecDepth 100000 in
set_option maxHeartbeats 8000000 in
theorem walk_ReaderReads (W : World) (v0 : Value) (x0 : (List Str)) (h0 : (RSl 1 RStr) W (Ahead W.heap.size) [v0] x0) : Calls Try.prog 3 #[v0] W fun e w' => e = .returned (.bool true) ∧ Fr No W w' := by
  obtain ⟨A0, c0, rfl, hc1, hc2⟩ := h0.slice
  obtain ⟨n, hn⟩ : ∃ n, n = x0.length := ⟨_, rfl⟩
  rw [← hn] at h0 hc1 ⊢
  have H0 := Lib.hid h0
  have HN := Lib.hid hn
  unfold maxLen at hc2
  clear h0 hn
  by_cases h16 : 16 < n
  · have hW := Lib.hid (wworks W W (Fr.refl _ _))
    go_enter Try.func3, Try.ntmps3
    go_wp2_with fail
    refine hW.out.mono ?_
    rintro e w1 ⟨rfl, hf⟩
    have HF := Lib.hid hf
    clear hf
    go_wp2_with fail
    go_ret
    exact ⟨rfl, HF.out⟩
  · go_enter Try.func3, Try.ntmps3
    go_wp2_with fail
    refine (new_all W).mono ?_
    rintro e w1 ⟨g, rfl, hra, hf, hng⟩
    have RA1 := Lib.hid hra
    have F1 := Lib.hid hf
    have HG := Lib.hid hng
    clear hra hf hng
    go_wp2_with fail
    go_loopw [4, 5] (fun sv i wr => ∃ (k : Nat) (s : Str) (A : Nat → Prop), sv = .string ⟨s.toArray⟩ ∧ i = .int .i64 k ∧ k ≤ n ∧ s.length ≤ 200 * k ∧ Hid (RA wr A g (allR s) (run 0 [] s).1.1 (run 0 [] s).1.2 ∧ Fr No W wr ∧ ∀ q, A q → W.heap.size ≤ q)) (fun _ i _ => n - (intOf i).toNat)
    case atStart => exact ⟨0, [], _, rfl, rfl, Nat.zero_le _, Nat.zero_le _, RA1.out, F1.out, fun q hq => hq ▸ HG.out.1⟩
    case round =>
      obtain ⟨k, s, A, rfl, rfl, hk, hs, hd⟩ := hrel
      by_cases hlt : k < n
      · have hkx : k < x0.length := HN.out ▸ hlt
        obtain ⟨ad, rfl, cs, -, -⟩ := str_at (str_keep H0.out hd.out.2.1 (fun q hq => hq)) hkx
        obtain ⟨t, ht⟩ : ∃ t, t = x0[k] := ⟨_, rfl⟩
        rw [← ht] at cs
        have HD := Lib.hid hd.out
        clear ht hd hkx
        by_cases h200 : 200 < t.length
        · have hW := Lib.hid (wworks W wr HD.out.2.1)
          go_wp2_with fail
          refine hW.out.mono ?_
          rintro e w2 ⟨rfl, hf⟩
          have HF := Lib.hid hf
          clear hf
          go_wp2_with fail
          go_ret
          exact ⟨rfl, HF.out⟩
        · have hadd := fun w => Go.run_string_add_sum (P := Try.prog) (w := w) ⟨s.toArray⟩ ⟨t.toArray⟩ (by simp [ByteArray.size]; omega)
          rw [ba_app] at hadd
          have HFD := Lib.hid (feed_all s t wr A g HD.out.1 (by omega))
          have HRD := Lib.hid (fun w => rread41_any (s ++ t) w (by simp; omega))
          have HF8 := Lib.hid ((fit_all (s ++ t)).mono (show 8 * (s ++ t).length ≤ 900000 by simp; omega))
          obtain ⟨cd, hcd⟩ : ∃ cd, cd = codeR (allR (s ++ t)) (run 0 [] (s ++ t)).1.1 := ⟨_, rfl⟩
          unfold FeedP at HFD
          unfold ReadP at HRD
          have HCK := Lib.hid (fun w A (h : RA w A g (allR (s ++ t)) (run 0 [] (s ++ t)).1.1 (run 0 [] (s ++ t)).1.2) => rdcheck_any h (run4 (s ++ t)))
          rw [← hcd] at HFD HRD HCK
          have hl9 : (s ++ t).length ≤ 200 * (k + 1) := by simp; omega
          obtain ⟨u, hu⟩ : ∃ u, u = s ++ t := ⟨_, rfl⟩
          rw [← hu] at hadd HFD HRD HF8 HCK hl9
          have HU := Lib.hid hu
          clear hcd hu
          go_wp2_with fail
          refine HFD.out.mono ?_
          rintro e w2 ⟨rfl, A2, hra, hst⟩
          have RA2 := Lib.hid hra
          have ST2 := Lib.hid hst
          clear hra hst
          go_wp2_with fail
          refine (HRD.out _).mono ?_
          rintro e w3 ⟨vR, vV, rfl, hrb, hf⟩
          obtain ⟨B, rv, hrw, -, -, -, -⟩ := hrb.parts
          obtain ⟨A5, k5, e5⟩ := own_form hrw.rown
          obtain ⟨A6, k6, e6⟩ := own_form hrw.vown
          obtain ⟨n5, hn5⟩ : ∃ n5, n5 = rv.length := ⟨_, rfl⟩
          obtain ⟨n6, hn6⟩ : ∃ n6, n6 = (allR u).V.length := ⟨_, rfl⟩
          rw [← hn5] at e5
          rw [← hn6] at e6
          subst e5 e6
          obtain ⟨ro, hro⟩ : ∃ ro, ro = (allR u).role := ⟨_, rfl⟩
          obtain ⟨bd, hbd⟩ : ∃ bd, bd = (allR u).bad := ⟨_, rfl⟩
          rw [← hro, ← hbd] at hrb
          rw [← hro, ← hbd]
          have fa : Fr No w3 (w3.alloc (.cells #[.slice A5 n5 k5, .slice A6 n6 k6, .int .i64 ro, .bool bd] 31)) := (Fr.refl No w3).alloc _
          have RB3 := Lib.hid (hrb.no fa)
          have RA3 := Lib.hid (RA2.out.no (hf.then_no fa))
          have F3 := Lib.hid (hf.then_no fa)
          have X3 := Blk.new w3 31 #[.slice A5 n5 k5, .slice A6 n6 k6, .int .i64 ro, .bool bd]
          have y0 := X3.cell 0
          have y1 := X3.cell 1
          have y2 := X3.cell 2
          have y3 := X3.cell 3
          simp only [List.getElem?_toArray, List.getElem?_cons_zero, List.getElem?_cons_succ] at y0 y1 y2 y3
          clear hrw hrb hn5 hn6 hro hbd hf fa X3
          go_wp2_with fail
          refine (HCK.out _ _ RA3.out).mono ?_
          rintro e w4' ⟨rfl, hw⟩
          subst hw
          go_wp2_with fail
          refine (lsame_any RA3.out RB3.out rfl rfl rfl HF8.out).mono ?_
          rintro e w5 ⟨rfl, hf⟩
          have F5 := Lib.hid (F3.out.then_no hf)
          clear hf
          go_wp2_with fail
          go_roundw
          case rel =>
            have st := ST2.out
            have sz := HD.out.2.1.size
            refine ⟨k + 1, u, A2, rfl, by go_num, by omega, hl9, RA2.out.no F5.out, (HD.out.2.1.trans st.1 (fun q hq hl => by have := HD.out.2.2 q hq; omega)).then_no F5.out, fun q hq => (st.2 q hq).elim (HD.out.2.2 q) (fun h => by have := h.1; omega)⟩
          case measure => simp [intOf]; omega
      · have hW := Lib.hid (wworks W wr hd.out.2.1)
        clear hd
        go_wp2_with fail
        refine hW.out.mono ?_
        rintro e w2 ⟨rfl, hf⟩
        have HF := Lib.hid hf
        clear hf
        go_wp2_with fail
        go_ret
        exact ⟨rfl, HF.out⟩
end Rd
end Go.Proofs.Ytmmdiccpifepfaa
