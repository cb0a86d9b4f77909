/- Package event: the reference's All. Printed by gen_evk.py. -/
import Derived.Test.YtohjnbkehcdoaaaDoorEvI
import Derived.Test.YtohjnbkehcdoaaaDoorEvJ
import Derived.Deep.CutRange
namespace Go.Proofs.YtohjnbkehcdoaaaDoor
open Go.RowKit
set_option linter.unusedVariables false
set_option linter.unusedSimpArgs false
namespace Ev
open Digit Sls
set_option maxRecDepth 100000 in
set_option maxHeartbeats 8000000 in
theorem rall_any (s : Str) (w : World) (hs : s.length ≤ 9000) : Calls Tryd.prog 13 #[.string ⟨s.toArray⟩] w (RallIs (allE s) w) := by
  go_enter Tryd.func13, Tryd.ntmps13
  go_wp2_with fail
  go_loopw [5, 6, 7, 8] (fun u n z i wr => ∃ (k m : Nat) (cur : Str) (o : List E) (j : Nat), i = .int .i64 k ∧ n = .int .i64 m ∧ z = .string ⟨cur.toArray⟩ ∧ k ≤ s.length + 1 ∧ m ≤ k + 1 ∧ cur.length ≤ k ∧ j ≤ k ∧ Hid (j = o.length) ∧ Hid (∀ x ∈ o, x.s.length ≤ 900000) ∧ Hid (allE s = resA o m cur s k) ∧ Hid (Grow w wr 23 5 encE u o)) (fun _ _ _ i _ => s.length + 1 - (intOf i).toNat)
  case atStart => exact ⟨0, 1, [], [], 0, rfl, rfl, rfl, by omega, by omega, by simp, by omega, rfl, (fun x hx => by cases hx), resA_start s, Grow.start _ _ _ _⟩
  case round =>
    obtain ⟨k, m, cur, o, j, rfl, rfl, rfl, hk, hm, hcur, hj, HJ, HL, HQ, G⟩ := hrel
    obtain ⟨B, d, hu⟩ := G.out.form
    rw [← HJ.out] at hu
    subst hu
    by_cases hle : k ≤ s.length
    · by_cases hlt : k < s.length
      · have hix : (⟨s.toArray⟩ : ByteArray)[k]'(by simpa [ByteArray.size] using hlt) = s[k] := rfl
        by_cases h10 : s[k] = 10
        · have HN := Lib.hid (show allE s = thenA (stepL o m cur) (fun o' => resA o' (m + 1) [] s (k + 1)) from by rw [HQ.out, resA_line hlt h10])
          obtain ⟨hc10, hc11⟩ := u8_t (d := 10) (n := 10) rfl h10
          clear HQ h10
          have hcl : cur.length ≤ 9000 := by omega
          have HNE := Lib.hid (show cur = [] ∨ (0 < cur.length ∧ ((⟨cur.toArray⟩ : ByteArray) == ⟨#[]⟩) = false) from by cases cur with
            | nil => exact .inl rfl
            | cons c t => exact .inr ⟨by simp, by show ((c :: t).toArray == (#[] : Array UInt8)) = false; simp⟩)
          rcases HNE.out with hcu | ⟨hcp, hne⟩
          · subst hcu
            have HN2 := Lib.hid (show allE s = resA o (m + 1) [] s (k + 1) from by rw [HN.out, step_skip (.inl rfl)]; rfl)
            clear HNE HN
            go_wp2_with fail
            go_roundw
            case rel => exact ⟨k + 1, m + 1, [], o, j, by go_num, by go_num, rfl, by omega, by omega, by simp, by omega, HJ.out, HL.out, HN2.out, G.out⟩
            case measure => simp [intOf] <;> omega
          · have hcn : ¬ cur = [] := by rintro rfl; simp at hcp
            have hcn2 : (cur == []) = false := by simpa using hcn
            clear HNE
            have hix0 : (⟨cur.toArray⟩ : ByteArray)[0]'(by simpa [ByteArray.size] using hcp) = cur[0] := rfl
            by_cases h35 : cur[0] = 35
            · have HN2 := Lib.hid (show allE s = resA o (m + 1) [] s (k + 1) from by rw [HN.out, step_skip (.inr (by rw [List.head?_eq_getElem?, List.getElem?_eq_getElem hcp, h35]))]; rfl)
              have hc35 := u8_t (d := 35) (n := 35) rfl h35
              obtain ⟨hc36, hc37⟩ := hc35
              clear HN h35
              go_wp2_with fail
              go_roundw
              case rel => exact ⟨k + 1, m + 1, [], o, j, by go_num, by go_num, rfl, by omega, by omega, by simp, by omega, HJ.out, HL.out, HN2.out, G.out⟩
              case measure => simp [intOf] <;> omega
            · have HH := Lib.hid (show ¬ (cur = [] ∨ cur.head? = some 35) from by
                rintro (h | h)
                · rw [h] at hcp; simp at hcp
                · rw [List.head?_eq_getElem?, List.getElem?_eq_getElem hcp] at h; injection h with h; exact h35 h)
              have hc35 := u8_f (d := 35) (n := 35) rfl h35
              obtain ⟨hc36, hc37⟩ := hc35
              have HRD := Lib.hid (fun W => rread38_any cur W hcl)
              clear h35
              go_wp2_with fail
              refine (HRD.out _).mono ?_
              unfold RreadIs
              clear HRD hix0 hc36 hc37 hne
              rw [read_same]
              have hcode := read_code cur
              rcases hcode with ⟨e, hr⟩ | hr
              · rw [hr]
                rintro x w1 ⟨rfl, hf⟩
                have HL2 := Lib.hid (all_in HL.out (Nat.le_trans (read_len hr) (Nat.le_trans hcl (by decide))))
                have HN2 := Lib.hid (show allE s = resA (o ++ [e]) (m + 1) [] s (k + 1) from by rw [HN.out, step_ok HH.out hr]; rfl)
                have HG1 := Lib.hid ((G.out.no hf).no ((Fr.refl No w1).alloc (.cells (cE e) 23)))
                have HX1 := Lib.hid (Blk.new w1 23 (cE e))
                clear hf hr HN HH G hcl HL
                simp only
                obtain ⟨b9, hb9⟩ : ∃ b, w1.heap.size = b := ⟨_, rfl⟩
                rw [hb9] at HX1
                obtain ⟨ek, ew, en, eo, es⟩ := e
                unfold cE
                simp only
                go_upto_region 12 with (fail)
                try rw [hb9]
                clear hb9
                rw [show (#[Value.int .i64 ek, .int .i64 ew, .int .i64 en, .bool eo, .string ⟨es.toArray⟩] : Array Value) = cE ⟨ek, ew, en, eo, es⟩ from rfl]
                generalize w1.alloc (.cells (cE ⟨ek, ew, en, eo, es⟩) 23) = w9 at HG1 HX1 ⊢
                have n0 := HX1.out.cell 0
                have n1 := HX1.out.cell 1
                have n2 := HX1.out.cell 2
                have n3 := HX1.out.cell 3
                have n4 := HX1.out.cell 4
                simp only [cE, List.getElem?_toArray, List.getElem?_cons_zero, List.getElem?_cons_succ] at n0 n1 n2 n3 n4
                have Ow := Lib.hid (show w9.ownsRow 0 23 5 (.slice B j d) j (o.flatMap encE) from by have := HG1.out.own; rw [← HJ.out] at this; exact this)
                go_wp2_with (at_builtin; go_loud (refine wp_push rfl (.tmp 53) (.tmp 55) 33 rfl 23 (.agg #[.int .i64 0, .int .i64 0, .int .i64 0, .bool false, .string ByteArray.empty]) 5 48 Tryd.underlying33 infoE rfl (by decide) (.slice B j d) _ _ rfl Ow.out #[.int .i64 ek, .int .i64 ew, .int .i64 en, .bool eo, .string ⟨es.toArray⟩] rfl rfl (by intro u hu; simp at hu; rcases hu with rfl | rfl | rfl | rfl | rfl <;> rfl) (by omega) (by unfold maxLen; omega) ?_; intro g4 cap4 w6 p1 p2 p3; have P1 := Lib.hid p1; have P2 := Lib.hid p2; have P3 := Lib.hid p3; clear p1 p2 p3))
                go_roundw
                case rel => exact ⟨k + 1, m + 1, [], (o ++ [(⟨ek, ew, en, eo, es⟩ : E)]), (j + 1), by go_num, by go_num, rfl, by omega, by omega, by simp, by omega, (show j + 1 = _ by rw [HJ.out]; simp), HL2.out, HN2.out, (by
                  have e := HJ.out
                  have g := HG1.out
                  have p1 := P1.out
                  have p2 := P2.out
                  have p3 := P3.out
                  subst e
                  exact g.push (x := ⟨ek, ew, en, eo, es⟩) p1 p2 p3)⟩
                case measure => simp [intOf] <;> omega
              · rw [hr]
                rintro x w1 ⟨rfl, hf⟩
                have HN2 := Lib.hid (show allE s = .error m from by rw [HN.out, step_bad HH.out hr]; rfl)
                have HF1 := Lib.hid (G.out.fr.then_no hf)
                clear hf hr HN HH G hcl HL
                simp only
                unfold cE
                simp only [E0]
                have HF2 := Lib.hid (HF1.out.alloc (.cells #[.int .i64 0, .int .i64 0, .int .i64 0, .bool false, .string ⟨[].toArray⟩] 23))
                go_wp2_with fail
                refine bodyPost_ret (v := .tuple #[.slice none 0 0, .int .i64 3, .int .i64 m]) ?_ rfl ?_
                · simp [results, Tryd.f13, go_sem]
                · rw [HN2.out]
                  exact ⟨rfl, HF2.out⟩
        · obtain ⟨hc10, hc11⟩ := u8_f (d := 10) (n := 10) rfl h10
          have hs1 := fun W : World => slice_one (P := Tryd.prog) W 9 Tryd.underlying9 s k (k + 1) k hlt rfl rfl
          obtain ⟨z, hz⟩ : ∃ z, cur ++ [s[k]] = z := ⟨_, rfl⟩
          have hba : (⟨cur.toArray⟩ : ByteArray) ++ ⟨[s[k]].toArray⟩ = ⟨z.toArray⟩ := by rw [ba_app, hz]
          have hadd := fun W : World => Go.run_string_add_sum (P := Tryd.prog) (w := W) ⟨cur.toArray⟩ ⟨[s[k]].toArray⟩ (by simp [ByteArray.size]; omega)
          rw [hba] at hadd
          have hzl : z.length ≤ k + 1 := by rw [← hz]; simp; omega
          have HN := Lib.hid (show allE s = resA o m z s (k + 1) from by rw [HQ.out, resA_more hlt h10, hz])
          clear hz hba HQ h10
          go_wp2_with fail
          go_roundw
          case rel => exact ⟨k + 1, m, z, o, j, by go_num, rfl, rfl, by omega, by omega, hzl, by omega, HJ.out, HL.out, HN.out, G.out⟩
          case measure => simp [intOf] <;> omega
      · obtain rfl : k = s.length := by omega
        have HN := Lib.hid (show allE s = thenA (stepL o m cur) (fun o' => resA o' (m + 1) [] s (s.length + 1)) from by rw [HQ.out, resA_end])
        clear HQ hlt
        have hcl : cur.length ≤ 9000 := by omega
        have HNE := Lib.hid (show cur = [] ∨ (0 < cur.length ∧ ((⟨cur.toArray⟩ : ByteArray) == ⟨#[]⟩) = false) from by cases cur with
          | nil => exact .inl rfl
          | cons c t => exact .inr ⟨by simp, by show ((c :: t).toArray == (#[] : Array UInt8)) = false; simp⟩)
        rcases HNE.out with hcu | ⟨hcp, hne⟩
        · subst hcu
          have HN2 := Lib.hid (show allE s = resA o (m + 1) [] s (s.length + 1) from by rw [HN.out, step_skip (.inl rfl)]; rfl)
          clear HNE HN
          go_wp2_with fail
          go_roundw
          case rel => exact ⟨s.length + 1, m + 1, [], o, j, by go_num, by go_num, rfl, by omega, by omega, by simp, by omega, HJ.out, HL.out, HN2.out, G.out⟩
          case measure => simp [intOf] <;> omega
        · have hcn : ¬ cur = [] := by rintro rfl; simp at hcp
          have hcn2 : (cur == []) = false := by simpa using hcn
          clear HNE
          have hix0 : (⟨cur.toArray⟩ : ByteArray)[0]'(by simpa [ByteArray.size] using hcp) = cur[0] := rfl
          by_cases h35 : cur[0] = 35
          · have HN2 := Lib.hid (show allE s = resA o (m + 1) [] s (s.length + 1) from by rw [HN.out, step_skip (.inr (by rw [List.head?_eq_getElem?, List.getElem?_eq_getElem hcp, h35]))]; rfl)
            have hc35 := u8_t (d := 35) (n := 35) rfl h35
            obtain ⟨hc36, hc37⟩ := hc35
            clear HN h35
            go_wp2_with fail
            go_roundw
            case rel => exact ⟨s.length + 1, m + 1, [], o, j, by go_num, by go_num, rfl, by omega, by omega, by simp, by omega, HJ.out, HL.out, HN2.out, G.out⟩
            case measure => simp [intOf] <;> omega
          · have HH := Lib.hid (show ¬ (cur = [] ∨ cur.head? = some 35) from by
              rintro (h | h)
              · rw [h] at hcp; simp at hcp
              · rw [List.head?_eq_getElem?, List.getElem?_eq_getElem hcp] at h; injection h with h; exact h35 h)
            have hc35 := u8_f (d := 35) (n := 35) rfl h35
            obtain ⟨hc36, hc37⟩ := hc35
            have HRD := Lib.hid (fun W => rread38_any cur W hcl)
            clear h35
            go_wp2_with fail
            refine (HRD.out _).mono ?_
            unfold RreadIs
            clear HRD hix0 hc36 hc37 hne
            rw [read_same]
            have hcode := read_code cur
            rcases hcode with ⟨e, hr⟩ | hr
            · rw [hr]
              rintro x w1 ⟨rfl, hf⟩
              have HL2 := Lib.hid (all_in HL.out (Nat.le_trans (read_len hr) (Nat.le_trans hcl (by decide))))
              have HN2 := Lib.hid (show allE s = resA (o ++ [e]) (m + 1) [] s (s.length + 1) from by rw [HN.out, step_ok HH.out hr]; rfl)
              have HG1 := Lib.hid ((G.out.no hf).no ((Fr.refl No w1).alloc (.cells (cE e) 23)))
              have HX1 := Lib.hid (Blk.new w1 23 (cE e))
              clear hf hr HN HH G hcl HL
              simp only
              obtain ⟨b9, hb9⟩ : ∃ b, w1.heap.size = b := ⟨_, rfl⟩
              rw [hb9] at HX1
              obtain ⟨ek, ew, en, eo, es⟩ := e
              unfold cE
              simp only
              go_upto_region 12 with (fail)
              try rw [hb9]
              clear hb9
              rw [show (#[Value.int .i64 ek, .int .i64 ew, .int .i64 en, .bool eo, .string ⟨es.toArray⟩] : Array Value) = cE ⟨ek, ew, en, eo, es⟩ from rfl]
              generalize w1.alloc (.cells (cE ⟨ek, ew, en, eo, es⟩) 23) = w9 at HG1 HX1 ⊢
              have n0 := HX1.out.cell 0
              have n1 := HX1.out.cell 1
              have n2 := HX1.out.cell 2
              have n3 := HX1.out.cell 3
              have n4 := HX1.out.cell 4
              simp only [cE, List.getElem?_toArray, List.getElem?_cons_zero, List.getElem?_cons_succ] at n0 n1 n2 n3 n4
              have Ow := Lib.hid (show w9.ownsRow 0 23 5 (.slice B j d) j (o.flatMap encE) from by have := HG1.out.own; rw [← HJ.out] at this; exact this)
              go_wp2_with (at_builtin; go_loud (refine wp_push rfl (.tmp 53) (.tmp 55) 33 rfl 23 (.agg #[.int .i64 0, .int .i64 0, .int .i64 0, .bool false, .string ByteArray.empty]) 5 48 Tryd.underlying33 infoE rfl (by decide) (.slice B j d) _ _ rfl Ow.out #[.int .i64 ek, .int .i64 ew, .int .i64 en, .bool eo, .string ⟨es.toArray⟩] rfl rfl (by intro u hu; simp at hu; rcases hu with rfl | rfl | rfl | rfl | rfl <;> rfl) (by omega) (by unfold maxLen; omega) ?_; intro g4 cap4 w6 p1 p2 p3; have P1 := Lib.hid p1; have P2 := Lib.hid p2; have P3 := Lib.hid p3; clear p1 p2 p3))
              go_roundw
              case rel => exact ⟨s.length + 1, m + 1, [], (o ++ [(⟨ek, ew, en, eo, es⟩ : E)]), (j + 1), by go_num, by go_num, rfl, by omega, by omega, by simp, by omega, (show j + 1 = _ by rw [HJ.out]; simp), HL2.out, HN2.out, (by
                have e := HJ.out
                have g := HG1.out
                have p1 := P1.out
                have p2 := P2.out
                have p3 := P3.out
                subst e
                exact g.push (x := ⟨ek, ew, en, eo, es⟩) p1 p2 p3)⟩
              case measure => simp [intOf] <;> omega
            · rw [hr]
              rintro x w1 ⟨rfl, hf⟩
              have HN2 := Lib.hid (show allE s = .error m from by rw [HN.out, step_bad HH.out hr]; rfl)
              have HF1 := Lib.hid (G.out.fr.then_no hf)
              clear hf hr HN HH G hcl HL
              simp only
              unfold cE
              simp only [E0]
              have HF2 := Lib.hid (HF1.out.alloc (.cells #[.int .i64 0, .int .i64 0, .int .i64 0, .bool false, .string ⟨[].toArray⟩] 23))
              go_wp2_with fail
              refine bodyPost_ret (v := .tuple #[.slice none 0 0, .int .i64 3, .int .i64 m]) ?_ rfl ?_
              · simp [results, Tryd.f13, go_sem]
              · rw [HN2.out]
                exact ⟨rfl, HF2.out⟩
    · have HN := Lib.hid (show allE s = .ok o from by rw [HQ.out, resA_done (by omega)])
      clear HQ
      go_wp2_with fail
      refine bodyPost_ret (v := .tuple #[.slice B j d, .int .i64 0, .int .i64 0]) ?_ rfl ?_
      · simp [results, Tryd.f13, go_sem]
      · rw [HN.out]
        exact ⟨_, rfl, grow_ev (by have := G.out; exact this) HL.out, G.out.fr⟩

end Ev
end Go.Proofs.YtohjnbkehcdoaaaDoor
