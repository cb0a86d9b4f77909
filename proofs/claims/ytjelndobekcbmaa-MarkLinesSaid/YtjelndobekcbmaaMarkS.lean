/- Mark: the law of pieces. -/
import Derived.Test.YtjelndobekcbmaaMarkT
import Derived.Test.YtjelndobekcbmaaPush
import Derived.BigQuiet
import Derived.Outline
import Derived.Deep.RegionHeld3
namespace Go.Proofs.Ytjelndobekcbmaa
open Go.RowKit
set_option linter.unusedVariables false
set_option linter.unusedSimpArgs false
namespace Mark
open Digit Clock Sls
theorem encIt_one (l : List It) : ∀ u ∈ l.flatMap encIt, u.oneCell' = true := by
  intro u hu
  obtain ⟨x, -, h⟩ := List.mem_flatMap.1 hu
  simp only [encIt, List.mem_cons, List.not_mem_nil, or_false] at h
  rcases h with rfl | rfl | rfl <;> rfl
theorem encIt_len (l : List It) : (l.flatMap encIt).length = l.length * 3 := by
  induction l with
  | nil => rfl
  | cons x l ih => rw [List.flatMap_cons, List.length_append, ih, List.length_cons]; simp [encIt]; omega
theorem split_at {α : Type} (l : List α) (i : Nat) (h : i < l.length) : l = l.take i ++ [l[i]] ++ l.drop (i + 1) := by
  rw [← List.take_succ_eq_append_getElem h, List.take_append_drop]
theorem u8_nat {n : Int} (h : (Lit.int .u8 n).wf = true) : ∃ a : Nat, n = a ∧ a < 256 := by
  have h' : 0 ≤ n ∧ n ≤ 255 := by simpa [Lit.wf, IntKind.min, IntKind.max, IntKind.signed, IntKind.bits] using h
  exact ⟨n.toNat, by omega, by omega⟩
set_option maxRecDepth 100000 in
set_option maxHeartbeats 4000000 in
theorem walk_MarkPieces (W : World) (v0 : Value) (x0 : (List (Int × (Int × Str)))) (h0 : (RSl 3 (RTwo 1 (RInt .i64) (RTwo 1 (RInt .i64) RStr))) W (Ahead W.heap.size) [v0] x0) (v1 : Value) (x1 : Int) (h1 : (RInt .u8) W (Ahead W.heap.size) [v1] x1) (v2 : Value) (x2 : Int) (h2 : (RInt .u8) W (Ahead W.heap.size) [v2] x2) : Calls Try.prog 3 #[v0, v1, v2] W fun e w' => e = .returned (.bool true) ∧ Fr No W w' := by
  obtain ⟨h1a, h1b⟩ := h1
  injection h1a with h1a _
  subst h1a
  obtain ⟨a, rfl, ha⟩ := u8_nat h1b
  obtain ⟨h2a, h2b⟩ := h2
  injection h2a with h2a _
  subst h2a
  obtain ⟨b, rfl, hb⟩ := u8_nat h2b
  have H0 := Lib.hid h0
  clear h0 h1b h2b
  go_enter Try.func3, Try.ntmps3
  go_wp2_with fail
  refine (few_any _ _ _ _ (fun k hk => hk) H0.out).mono ?_
  rintro e w1 ⟨v, m, rfl, hm, hl, hok, hf⟩
  obtain ⟨A, c, rfl, hc1, hc2⟩ := hm.slice
  have H1 := Lib.hid hm
  have HS := Lib.hid (show ∀ k, New W w1 k → k < w1.heap.size from fun k hk => hk.2)
  have HO := Lib.hid hok
  have F1 := Lib.hid hf
  unfold maxLen at hc2
  clear hm hok hf H0
  by_cases hz : m.length = 0
  · rw [hz]
    clear hz
    go_wp2_with fail
    refine (works_any _).mono ?_
    rintro e w2 ⟨rfl, hf⟩
    have F2 := Lib.hid (F1.out.then_no hf)
    clear hf
    go_wp2_with fail
    go_ret
    exact ⟨rfl, F2.out⟩
  · obtain ⟨i, hi⟩ : ∃ i, a % m.length = i := ⟨_, rfl⟩
    have hil : i < m.length := by rw [← hi]; exact Nat.mod_lt _ (by omega)
    have hmod : (a : Int) % (m.length : Int) = (i : Int) := by rw [← hi]; simp
    obtain ⟨ad, kd, n, s, rfl, hx, c0, c1, c2, hwn, -⟩ := it_at H1.out HS.out (Fr.refl _ _) hil
    have hs80 : s.length ≤ 80 := by have := (HO.out _ (List.getElem_mem hil)).2.2; rw [hx] at this; exact this
    have HX := Lib.hid hx
    have HW := Lib.hid hwn
    have hm0 : (0 : Int) < (m.length : Int) := by omega
    clear hi hx hwn
    by_cases h1 : kd = 1
    · subst h1
      obtain ⟨k, hk⟩ : ∃ k, b % (s.length + 1) = k := ⟨_, rfl⟩
      have hkl : k ≤ s.length := by have := Nat.mod_lt b (show 0 < s.length + 1 by omega); omega
      have hmod2 : (b : Int) % ((s.length : Int) + 1) = (k : Int) := by rw [← hk]; simp
      clear hk
      have HL := Lib.hid (Sls.sl_news (by decide) (H1.out.cut (show i ≤ m.length by omega)) (fun _ _ => rfl) (fun cs x h => enc_of h))
      have HT := Lib.hid (show ((m.take i).flatMap encIt).length = i * 3 by rw [encIt_len, List.length_take]; congr 1; omega)
      go_wp2_with (at_builtin; go_loud (refine wp_app (news := (m.take i).flatMap encIt) rfl (.tmp 38) (.tmp 41) 22 rfl 26 (.agg #[.int .i64 0, .int .i64 0, .string ByteArray.empty]) 3 32 Try.underlying22 infoIt rfl (by decide) (.slice none 0 0) 0 [] rfl (World.ownsRow_nil _ _ _ _) rfl HT.out HL.out (encIt_one _) (by omega) (by unfold maxLen; omega) ?_; intro v2 w2 p1 p2 p3; have G2 : Hid (GrIt w1 w2 v2 (m.take i)) := Lib.hid ((Grow.start w1 26 3 encIt).app (m := m.take i) (by rw [List.length_take, show min i m.length = i by omega]; exact p1) p2 p3); clear p1 p2 p3))
      have hti : (m.take i).length = i := by rw [List.length_take]; omega
      obtain ⟨B2, d2, hv2⟩ := G2.out.form
      rw [hti] at hv2
      subst hv2
      have Own2 := Lib.hid (show w2.ownsRow 0 26 3 (.slice B2 i d2) i ((m.take i).flatMap encIt) from by have := G2.out.own; rw [hti] at this; exact this)
      obtain ⟨ad', kd', n', s', e1, e2, d0, d1, dd, -⟩ := it_at H1.out HS.out G2.out.fr hil
      injection e1 with e1
      subst e1
      rw [HX.out] at e2
      injection e2 with e2 e3
      injection e3 with e3 e4
      subst e2 e3 e4
      have HTI := Lib.hid hti
      have hst := fun W : World => slice_to (P := Try.prog) W 9 Try.underlying9 s k k rfl hkl
      have hsf := fun W : World => slice_from (P := Try.prog) W 9 Try.underlying9 s k k rfl hkl
      have hi0 : (0 : Int) ≤ (i : Int) := by omega
      have hi1 : (i : Int) < (m.length : Int) := by omega
      clear c0 c1 c2 HL HT hti d0
      obtain ⟨ad'', ecs'', e1, hs'', -⟩ := Sls.sl_at H1.out hil
      injection e1 with e1
      subst e1
      have hab : (ad.add (i * 3)).block < w1.heap.size := by rw [block_add]; exact hs''.2
      have hla : (ad.add (i * 3)).block < w2.heap.size := Nat.lt_of_lt_of_le hab G2.out.fr.size
      have Hna := Lib.hid (show ¬ Of (.slice B2 i d2) (ad.add (i * 3)).block from fun h => by
        have := (G2.out.new _ h).1
        omega)
      clear hs''
      go_region_held3 (fun X => X.cell? ⟨(ad.add (i * 3)).block, (ad.add (i * 3)).off + 1, none⟩ = some (.int .i64 n) ∧ X.cell? ⟨(ad.add (i * 3)).block, (ad.add (i * 3)).off + 2, none⟩ = some (.string ⟨s.toArray⟩)) (go_keep) (((first | (refine step_pushesD 2 (by decide) rfl (.tmp 43) (.tmp 70) 22 rfl 26 (.agg #[.int .i64 0, .int .i64 0, .string ByteArray.empty]) 3 32 Try.underlying22 infoIt rfl (by decide) (.slice B2 i d2) i ((m.take i).flatMap encIt) (by simp [Act.eval, Act.put]) Own2.out #[.int .i64 1, .int .i64 n, .string ⟨(s.take k).toArray⟩, .int .i64 1, .int .i64 n, .string ⟨(s.drop k).toArray⟩] (by simp [Act.eval, Act.put]) rfl (by intro u hu; simp at hu; rcases hu with rfl | rfl | rfl | rfl | rfl | rfl <;> rfl) (by omega) (by unfold maxLen; omega) ?_) | (refine step_pushes 2 (by decide) rfl (.tmp 43) (.tmp 70) 22 rfl 26 (.agg #[.int .i64 0, .int .i64 0, .string ByteArray.empty]) 3 32 Try.underlying22 infoIt rfl (by decide) (.slice B2 i d2) i ((m.take i).flatMap encIt) (by simp [Act.eval, Act.put]) Own2.out #[.int .i64 1, .int .i64 n, .string ⟨(s.take k).toArray⟩, .int .i64 1, .int .i64 n, .string ⟨(s.drop k).toArray⟩] (by simp [Act.eval, Act.put]) rfl (by intro u hu; simp at hu; rcases hu with rfl | rfl | rfl | rfl | rfl | rfl <;> rfl) (by omega) (by unfold maxLen; omega) ?_)); intro g3 cap3 w3 p1 p2 p3; have k1 := (p2.cell (p := ⟨(ad.add (i * 3)).block, (ad.add (i * 3)).off + 1, none⟩) hla Hna.out).trans d1; have k2 := (p2.cell (p := ⟨(ad.add (i * 3)).block, (ad.add (i * 3)).off + 2, none⟩) hla Hna.out).trans dd; have P1 := Lib.hid p1; have P2 : Hid (Fr (Of (.slice B2 i d2)) w2 w3) := Lib.hid ⟨p2.os, p2.tape, p2.output, p2.size, p2.block⟩; have P3 : Hid (Of (.slice B2 i d2) g3 ∨ New w2 w3 g3) := Lib.hid p3; clear p1 p2 p3))
      have G3 : Hid (GrIt w1 w3 (.slice (some ⟨g3, 0, none⟩) (i + 2) cap3) (m.take i ++ [(1, n, s.take k), (1, n, s.drop k)])) := Lib.hid (G2.out.app (m := [(1, n, s.take k), (1, n, s.drop k)]) (by rw [HTI.out]; exact P1.out) P2.out (fun b hb => by
        have hb' : some g3 = some b := hb
        injection hb' with hb'
        subst hb'
        exact P3.out))
      have hdl : (m.drop (i + 1)).length = m.length - (i + 1) := List.length_drop
      have H3 := Lib.hid ((RSl.stable stable_it).go H1.out (Kept.of_no G3.out.fr HS.out) (fun k hk => hk))
      have HD := Lib.hid (show ((m.drop (i + 1)).flatMap encIt).length = (m.length - (i + 1)) * 3 by rw [encIt_len, hdl])
      have HDL := Lib.hid hdl
      have Own3 := Lib.hid (show w3.ownsRow 0 26 3 (.slice (some ⟨g3, 0, none⟩) (i + 2) cap3) (i + 2) ((m.take i ++ [(1, n, s.take k), (1, n, s.drop k)]).flatMap encIt) from by have := G3.out.own; rw [List.length_append, HTI.out] at this; exact this)
      clear hdl d1 dd hst hsf k1 k2 Own2 G2 P1 P2 P3
      have hi2 : ((i : Int) + 1) ≤ (m.length : Int) := by omega
      have HFM := Lib.hid (fewl_of (by omega) HO.out)
      have HOK := Lib.hid (show ∀ x ∈ (m.take i ++ [(1, n, s.take k), (1, n, s.drop k)] ++ m.drop (i + 1)), ItOk x from fun x hx => by
        have hxi := HO.out _ (List.getElem_mem hil)
        rw [HX.out] at hxi
        rcases List.mem_append.1 hx with hx | hx
        · rcases List.mem_append.1 hx with hx | hx
          · exact HO.out x (List.mem_of_mem_take hx)
          · simp only [List.mem_cons, List.not_mem_nil, or_false] at hx
            rcases hx with rfl | rfl
            · exact ⟨rfl, hxi.2.1, by have := hxi.2.2; simp only [List.length_take] at *; omega⟩
            · exact ⟨rfl, hxi.2.1, by have := hxi.2.2; simp only [List.length_drop] at *; omega⟩
        · exact HO.out x (List.mem_of_mem_drop hx))
      have HFW := Lib.hid (fewl_of (l := (m.take i ++ [(1, n, s.take k), (1, n, s.drop k)] ++ m.drop (i + 1))) (by simp only [List.length_append, List.length_take, List.length_drop, List.length_cons, List.length_nil]; omega) HOK.out)
      have HEQ := Lib.hid (show allR (m.take i ++ [(1, n, s.take k), (1, n, s.drop k)] ++ m.drop (i + 1)) = allR m from by
        have e := split_at m i hil
        rw [HX.out] at e
        conv => rhs; rw [e]
        rw [all_pieces, List.take_append_drop])
      by_cases hc : c = i + 1
      · subst hc
        have hml : m.length = i + 1 := by omega
        have hd0 : m.drop (i + 1) = [] := by rw [← hml, List.drop_length]
        have HD0 := Lib.hid hd0
        clear hd0 hml
        go_wp2_with (at_builtin; go_loud (refine wp_app (B := some (ad)) (m := 0) (c := 0) (news := []) rfl (.tmp 72) (.tmp 76) 22 rfl 26 (.agg #[.int .i64 0, .int .i64 0, .string ByteArray.empty]) 3 32 Try.underlying22 infoIt rfl (by decide) (.slice (some ⟨g3, 0, none⟩) (i + 2) cap3) (i + 2) _ rfl Own3.out rfl rfl (fun j u h => by simp at h) (fun u h => by cases h) (by omega) (by unfold maxLen; omega) ?_; intro v4 w4 p1 p2 p3; have G4 : Hid (GrIt w1 w4 v4 (m.take i ++ [(1, n, s.take k), (1, n, s.drop k)] ++ m.drop (i + 1))) := Lib.hid (by rw [HD0.out]; exact G3.out.app (m := []) (by rw [List.length_append, HTI.out]; exact p1) p2 p3); clear p1 p2 p3))
        have H4 := Lib.hid (gr_sl G4.out HOK.out)
        have F4 := Lib.hid (F1.out.then_no G4.out.fr)
        have HM4 := Lib.hid ((RSl.stable stable_it).go H1.out (Kept.of_no G4.out.fr HS.out) (fun k hk => hk))
        have HS4 := Lib.hid (show ∀ k, New W w1 k → k < w4.heap.size from fun k hk => Nat.lt_of_lt_of_le hk.2 G4.out.fr.size)
        clear G4
        go_wp2_with fail
        refine (all_any _ (m.take i ++ [(1, n, s.take k), (1, n, s.drop k)] ++ m.drop (i + 1)) _ _ (fun k hk => hk.2) H4.out HFW.out).mono ?_
        rintro e w5 ⟨rfl, hf⟩
        rw [HEQ.out]
        have F5 := Lib.hid (F4.out.then_no hf)
        have HM5 := Lib.hid ((RSl.stable stable_it).go HM4.out (Kept.of_no hf HS4.out) (fun k hk => hk))
        have HS5 := Lib.hid (show ∀ k, New W w1 k → k < w5.heap.size from fun k hk => Nat.lt_of_lt_of_le (HS4.out k hk) hf.size)
        clear hf
        go_wp2_with fail
        refine (all_any _ m _ _ HS5.out HM5.out HFM.out).mono ?_
        rintro e w6 ⟨rfl, hf⟩
        have F6 := Lib.hid (F5.out.then_no hf)
        clear hf HEQ
        generalize (allR m).1 = z
        go_wp2_with fail
        refine (works_any _).mono ?_
        rintro e w7 ⟨rfl, hf⟩
        have F7 := Lib.hid (F6.out.then_no hf)
        clear hf
        go_wp2_with fail
        go_ret
        exact ⟨rfl, F7.out⟩
      · have HNW := Lib.hid (Sls.sl_news (by decide) (Sls.sl_drop H3.out (show i + 1 ≤ m.length by omega)) (fun _ _ => rfl) (fun cs x h => enc_of h))
        go_wp2_with (at_builtin; go_loud (refine wp_app (B := some (ad.add ((i + 1) * 3))) (m := m.length - (i + 1)) (c := c - (i + 1)) (news := (m.drop (i + 1)).flatMap encIt) rfl (.tmp 72) (.tmp 76) 22 rfl 26 (.agg #[.int .i64 0, .int .i64 0, .string ByteArray.empty]) 3 32 Try.underlying22 infoIt rfl (by decide) (.slice (some ⟨g3, 0, none⟩) (i + 2) cap3) (i + 2) _ rfl Own3.out rfl HD.out HNW.out (encIt_one _) (by omega) (by unfold maxLen; omega) ?_; intro v4 w4 p1 p2 p3; have G4 : Hid (GrIt w1 w4 v4 (m.take i ++ [(1, n, s.take k), (1, n, s.drop k)] ++ m.drop (i + 1))) := Lib.hid (G3.out.app (m := m.drop (i + 1)) (by rw [List.length_append, HTI.out, HDL.out]; exact p1) p2 p3); clear p1 p2 p3))
        have H4 := Lib.hid (gr_sl G4.out HOK.out)
        have F4 := Lib.hid (F1.out.then_no G4.out.fr)
        have HM4 := Lib.hid ((RSl.stable stable_it).go H1.out (Kept.of_no G4.out.fr HS.out) (fun k hk => hk))
        have HS4 := Lib.hid (show ∀ k, New W w1 k → k < w4.heap.size from fun k hk => Nat.lt_of_lt_of_le hk.2 G4.out.fr.size)
        clear G4
        go_wp2_with fail
        refine (all_any _ (m.take i ++ [(1, n, s.take k), (1, n, s.drop k)] ++ m.drop (i + 1)) _ _ (fun k hk => hk.2) H4.out HFW.out).mono ?_
        rintro e w5 ⟨rfl, hf⟩
        rw [HEQ.out]
        have F5 := Lib.hid (F4.out.then_no hf)
        have HM5 := Lib.hid ((RSl.stable stable_it).go HM4.out (Kept.of_no hf HS4.out) (fun k hk => hk))
        have HS5 := Lib.hid (show ∀ k, New W w1 k → k < w5.heap.size from fun k hk => Nat.lt_of_lt_of_le (HS4.out k hk) hf.size)
        clear hf
        go_wp2_with fail
        refine (all_any _ m _ _ HS5.out HM5.out HFM.out).mono ?_
        rintro e w6 ⟨rfl, hf⟩
        have F6 := Lib.hid (F5.out.then_no hf)
        clear hf HEQ
        generalize (allR m).1 = z
        go_wp2_with fail
        refine (works_any _).mono ?_
        rintro e w7 ⟨rfl, hf⟩
        have F7 := Lib.hid (F6.out.then_no hf)
        clear hf
        go_wp2_with fail
        go_ret
        exact ⟨rfl, F7.out⟩
    · have h1b : ((kd : Int) != 1) = true := by simpa using h1
      go_wp2_with fail
      refine (works_any _).mono ?_
      rintro e w2 ⟨rfl, hf⟩
      have F2 := Lib.hid (F1.out.then_no hf)
      clear hf
      go_wp2_with fail
      go_ret
      exact ⟨rfl, F2.out⟩
end Mark
end Go.Proofs.Ytjelndobekcbmaa
