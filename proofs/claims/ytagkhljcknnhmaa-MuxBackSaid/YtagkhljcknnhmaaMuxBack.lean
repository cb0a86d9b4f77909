/- Statement MuxBack of package mux. -/
import Derived.Test.YtagkhljcknnhmaaMuxGot
import Derived.Test.YtagkhljcknnhmaaMuxRef2
namespace Go.Proofs.Ytagkhljcknnhmaa
open Go.RowKit
set_option linter.unusedVariables false
set_option linter.unusedSimpArgs false
namespace Mux
def encB1 (x : Str × Bool) : Str := if x.2 = true then toldB x.1 else twice x.1
def sent (l : List (Str × Bool)) : Str := l.flatMap encB1
theorem sent_snoc (l : List (Str × Bool)) (x : Str × Bool) : sent (l ++ [x]) = sent l ++ encB1 x := by simp [sent]
theorem encB1_len (x : Str × Bool) (h : x.1.length ≤ 60) : (encB1 x).length ≤ 124 := by
  have := twice_len x.1
  unfold encB1 toldB
  split <;> simp <;> omega
theorem run_sent (l : List (Str × Bool)) : run 0 [] (sent l) = ((0, []), tk l) := by
  induction l with
  | nil => rfl
  | cons x l ih =>
    have e : sent (x :: l) = encB1 x ++ sent l := rfl
    have e2 : tk (x :: l) = toks x ++ tk l := rfl
    have e3 : run 0 [] (encB1 x) = ((0, []), toks x) := by
      unfold encB1 toks
      split
      · exact run_told x.1
      · exact run_twice x.1 []
    rw [e, run_append, e3, ih, e2]
theorem twice_count (s : Str) : (twice s).length = s.length + s.count 255 := by
  induction s with
  | nil => rfl
  | cons c s ih =>
    have e : twice (c :: s) = (if c = 255 then [255, 255] else [c]) ++ twice s := by simp [twice]
    rw [e]
    by_cases h : c = 255
    · subst h; simp [ih]; omega
    · simp [h, ih, List.count_cons]; omega
theorem tot_sent (l : List (Str × Bool)) : tot l ≤ (sent l).length := by
  induction l with
  | nil => simp [tot]
  | cons x l ih =>
    have e : sent (x :: l) = encB1 x ++ sent l := rfl
    have e2 : tot (x :: l) = x.1.length + tot l := by simp [tot]
    have h := twice_count x.1
    rw [e, e2, List.length_append]
    unfold encB1 toldB
    split <;> simp <;> omega
set_option maxHeartbeats 2000000 in
theorem walk_MuxBack (W : World) (v0 : Value) (x0 : (List (Str × Bool))) (h0 : (RSl 2 (RTwo 1 RStr RBool)) W (Ahead W.heap.size) [v0] x0) (v1 : Value) (x1 : (List Int)) (h1 : (RSl 1 (RInt .u8)) W (Ahead W.heap.size) [v1] x1) : Calls Try.prog 6 #[v0, v1] W fun e w' => e = .returned (.bool true) ∧ Fr No W w' := by
  have Hx0 := Lib.hid h0
  obtain ⟨A, cap, rfl, hc1, hc2, hel⟩ := part_cells h0
  obtain ⟨B, cap', rfl, hd1, hd2, hel2⟩ := h1.ints
  clear h0 h1
  unfold maxLen at hc2 hd2
  have Hel := Lib.hid hel
  have Hel2 := Lib.hid hel2
  clear hel hel2
  go_enter Try.func6, Try.ntmps6
  by_cases b0 : 20 < x0.length
  · go_wp2_with (go_at_call 20; refine (works_any _).mono ?_; rintro e w' ⟨rfl, hf⟩; have Hf := Lib.hid hf; clear hf)
    go_ret
    exact ⟨rfl, Hf.out⟩
  by_cases b1 : 60 < x1.length
  · go_wp2_with (go_at_call 20; refine (works_any _).mono ?_; rintro e w' ⟨rfl, hf⟩; have Hf := Lib.hid hf; clear hf)
    go_ret
    exact ⟨rfl, Hf.out⟩
  go_wp2_with fail
  go_loopw [5, 6] (fun sv iv wr => ∃ (k : Nat) (s : Str), iv = .int .i64 k ∧ sv = .string ⟨s.toArray⟩ ∧ k ≤ x0.length ∧ s.length ≤ 124 * k ∧ Hid (s = sent (x0.take k)) ∧ Hid (Fr No W wr)) (fun _ i _ => x0.length - (intOf i).toNat)
  case atStart => exact ⟨0, [], rfl, rfl, by omega, by simp, rfl, Fr.refl _ _⟩
  case round =>
    obtain ⟨k, s, rfl, rfl, hk, hs, Hs, Hf⟩ := hrel
    by_cases hlt : k < x0.length
    · obtain ⟨ad, rfl, hSa, hcell1, hcell2, hxl⟩ := Hel.out k hlt
      have hsn : sent (x0.take (k + 1)) = s ++ encB1 x0[k] := by rw [List.take_succ_eq_append_getElem hlt, sent_snoc, ← Hs.out]
      obtain ⟨x, b, hx⟩ : ∃ x b, x0[k] = (x, b) := ⟨_, _, rfl⟩
      rw [hx] at hcell1 hcell2 hxl hsn
      simp only at hcell1 hcell2 hxl
      clear hx
      have k1 : wr.cell? (ad.add (k * 2)) = some (.string ⟨x.toArray⟩) := (Hf.out.cell (by rw [block_add]; exact hSa) (fun h => h)).trans hcell1
      have k2 : wr.cell? ⟨(ad.add (k * 2)).block, (ad.add (k * 2)).off + 1, none⟩ = some (.bool b) := (Hf.out.cell (by show (ad.add (k * 2)).block < _; rw [block_add]; exact hSa) (fun h => h)).trans hcell2
      by_cases hbig : 60 < x.length
      · go_wp2_with (go_at_call 20; refine (works_any _).mono ?_; rintro e w' ⟨rfl, hf⟩; have Hf1 := Lib.hid hf; clear hf)
        go_ret
        exact ⟨rfl, Hf.out.then_no Hf1.out⟩
      · have hen := encB1_len (x, b) (show x.length ≤ 60 by omega)
        cases b
        · have he : encB1 (x, false) = twice x := rfl
          rw [he] at hsn hen
          have Hsn := Lib.hid hsn
          clear hsn he
          go_wp2_with (first
            | (go_at_call 21; go_loud (refine (data_any x _ (by omega)).mono ?_; rintro e w1 ⟨rfl, hf⟩; have k3 : w1.cell? (ad.add (k * 2)) = some (.string ⟨x.toArray⟩) := (hf.cell (by rw [block_add]; exact Nat.lt_of_lt_of_le hSa Hf.out.size) (fun h => h)).trans k1; have Hf1 := Lib.hid hf; clear hf))
            | (go_at_call 22; go_loud (refine (rdata_any x _ (by omega)).mono ?_; rintro e w2 ⟨rfl, hf⟩; have k4 : w2.cell? ⟨(ad.add (k * 2)).block, (ad.add (k * 2)).off + 1, none⟩ = some (.bool false) := ((Hf1.out.then_no hf).cell (by show (ad.add (k * 2)).block < _; rw [block_add]; exact Nat.lt_of_lt_of_le hSa Hf.out.size) (fun h => h)).trans k2; have Hf2 := Lib.hid (Hf1.out.then_no hf); clear hf)))
          go_roundw
          case rel => exact ⟨k + 1, s ++ twice x, by go_num, rfl, by omega, by simp; omega, Hsn.out.symm, Hf.out.then_no Hf2.out⟩
          case measure => simp [intOf]; omega
        · have he : encB1 (x, true) = toldB x := rfl
          rw [he] at hsn hen
          have Hsn := Lib.hid hsn
          clear hsn he
          go_wp2_with (first
            | (go_at_call 21; go_loud (refine (data_any x _ (by omega)).mono ?_; rintro e w1 ⟨rfl, hf⟩; have k3 : w1.cell? (ad.add (k * 2)) = some (.string ⟨x.toArray⟩) := (hf.cell (by rw [block_add]; exact Nat.lt_of_lt_of_le hSa Hf.out.size) (fun h => h)).trans k1; have Hf1 := Lib.hid hf; clear hf))
            | (go_at_call 22; go_loud (refine (rdata_any x _ (by omega)).mono ?_; rintro e w2 ⟨rfl, hf⟩; have k4 : w2.cell? ⟨(ad.add (k * 2)).block, (ad.add (k * 2)).off + 1, none⟩ = some (.bool true) := ((Hf1.out.then_no hf).cell (by show (ad.add (k * 2)).block < _; rw [block_add]; exact Nat.lt_of_lt_of_le hSa Hf.out.size) (fun h => h)).trans k2; have k5 : w2.cell? (ad.add (k * 2)) = some (.string ⟨x.toArray⟩) := ((Hf1.out.then_no hf).cell (by rw [block_add]; exact Nat.lt_of_lt_of_le hSa Hf.out.size) (fun h => h)).trans k1; have Hf2 := Lib.hid (Hf1.out.then_no hf); clear hf))
            | (go_at_call 23; go_loud (refine (told_any x _ (by omega)).mono ?_; rintro e w3 ⟨rfl, hf⟩; have k6 : w3.cell? (ad.add (k * 2)) = some (.string ⟨x.toArray⟩) := ((Hf2.out.then_no hf).cell (by rw [block_add]; exact Nat.lt_of_lt_of_le hSa Hf.out.size) (fun h => h)).trans k1; have Hf3 := Lib.hid (Hf2.out.then_no hf); clear hf))
            | (go_at_call 24; go_loud (refine (rtold_any x _ (by omega)).mono ?_; rintro e w4 ⟨rfl, hf⟩; have Hf4 := Lib.hid (Hf3.out.then_no hf); clear hf)))
          go_roundw
          case rel => exact ⟨k + 1, s ++ toldB x, by go_num, rfl, by omega, by simp; omega, Hsn.out.symm, Hf.out.then_no Hf4.out⟩
          case measure => simp [intOf]; omega
    · have hkl : k = x0.length := by omega
      have hse : s = sent x0 := by rw [Hs.out, hkl, List.take_length]
      have Hse := Lib.hid hse
      clear Hs hkl hse
      have hs' : s.length ≤ 2480 := by omega
      clear hs
      obtain ⟨w0, hw0⟩ : ∃ w0, w0 = wr := ⟨_, rfl⟩
      subst hw0
      go_wp2_with fail
      go_loopw [5, 10, 11] (fun sv o iv w2 => ∃ (j m p : Nat) (fed rest op : Str) (F : Nat → Prop) (got : List (Str × Bool)), iv = .int .i64 j ∧ sv = .string ⟨rest.toArray⟩ ∧ j ≤ x1.length ∧ fed.length + rest.length ≤ 2480 ∧ m ≤ 2600 * j ∧ Hid (m = got.length) ∧ Hid (fed ++ rest = s) ∧ Hid (MI w0 w2 fed o F p op got (2600 * j))) (fun _ _ i _ => x1.length - (intOf i).toNat)
      case atStart => exact ⟨0, 0, 0, [], s, [], _, [], rfl, rfl, by omega, by simp; omega, by omega, rfl, rfl, MI.new w0⟩
      case round =>
        obtain ⟨j, m, p, fed, rest, op, F, got, rfl, rfl, hj, hs, hm, Hm, Hfr, Hi⟩ := hrel
        obtain ⟨A1, c1, hu⟩ := own_form Hi.out.own
        rw [← Hm.out] at hu
        subst hu
        by_cases hlt2 : j < x1.length
        · obtain ⟨ad, rfl, hSa, hcell, hwf⟩ := Hel2.out j hlt2
          obtain ⟨c, hc⟩ : ∃ c, c = x1[j] := ⟨_, rfl⟩
          rw [← hc] at hcell hwf
          clear hc
          obtain ⟨cn, rfl, hcn⟩ : ∃ cn : Nat, c = cn ∧ cn < 256 := by
            have e1 : IntKind.u8.min = 0 := rfl
            have e2 : IntKind.u8.max = 255 := rfl
            have : 0 ≤ c ∧ c ≤ 255 := by simpa [Lit.wf, e1, e2] using hwf
            exact ⟨c.toNat, by omega, by omega⟩
          have hcell' : wr.cell? (ad.add j) = some (.int .u8 cn) := (Hi.out.fr.cell (by rw [block_add]; exact Nat.lt_of_lt_of_le hSa Hf.out.size) (fun h => h)).trans ((Hf.out.cell (by rw [block_add]; exact hSa) (fun h => h)).trans hcell)
          by_cases hmin : cn % 8 ≤ rest.length
          · obtain ⟨q, hq⟩ : ∃ q, q = cn % 8 := ⟨_, rfl⟩
            have hsl1 := fun W : World => slice_to (P := Try.prog) W 9 Try.underlying9 rest ((cn : Int) % 8) q (by omega) (by omega)
            have hsl2 := fun W : World => slice_from (P := Try.prog) W 9 Try.underlying9 rest ((cn : Int) % 8) q (by omega) (by omega)
            have hq1 : q ≤ rest.length := by omega
            have hq2 : q ≤ 8 := by omega
            have hmi : ((cn : Int) % 8) ≤ (rest.length : Int) := by omega
            have hop := Hi.out.p4
            obtain ⟨x, hx⟩ : ∃ x, x = rest.take q := ⟨_, rfl⟩
            obtain ⟨r2, hr2⟩ : ∃ r2, r2 = rest.drop q := ⟨_, rfl⟩
            have hxr : x ++ r2 = rest := by rw [hx, hr2]; exact List.take_append_drop q rest
            have hxl : x.length = q := by rw [hx]; simp; omega
            have hrl : r2.length = rest.length - q := by rw [hr2]; simp
            rw [← hx] at hsl1
            rw [← hr2] at hsl2
            have Hxr := Lib.hid hxr
            clear hx hr2 hxr
            obtain ⟨p1, op1, hr⟩ : ∃ p1 op1, (feedR p op [] [] x).1 = (p1, op1) := ⟨_, _, rfl⟩
            obtain ⟨L, hL⟩ : ∃ L, flushR (feedR p op [] [] x).2.1 (feedR p op [] [] x).2.2 = L := ⟨_, rfl⟩
            have hLz := feed_sz x p op [] [] hop.1
            rw [hL] at hLz
            have hLz2 := sz_le (N := 20000) (l := L) (Nat.le_trans hLz (by simp [sz, tot]; omega))
            clear hLz
            obtain ⟨n, hn⟩ : ∃ n, n = L.length := ⟨_, rfl⟩
            have hn2 : n ≤ 20000 := by rw [hn]; exact hLz2.2.1
            have Hn := Lib.hid hn
            have HLz := Lib.hid hLz2
            have Hr := Lib.hid hr
            have HL := Lib.hid hL
            clear hr hL hn hLz2
            go_wp2_with fail
            refine (feed_any wr F w0.heap.size p op x Hi.out.sat hop.1 (by omega)).mono ?_
            intro e w1 hp
            obtain ⟨F1, A2, c2, rfl, h1, h2, h3, h4⟩ := hp.known Hr.out HL.out
            have h1' : w1.ownsRow 0 74 2 (.slice A2 n c2) L.length (L.flatMap encP) := by rw [Hn.out]; exact h1
            have H1 := Lib.hid h1'
            have H2 := Lib.hid h2
            have H3 := Lib.hid h3
            rw [← Hn.out]
            clear hp h1 h2 h3 h4 h1'
            go_wp2_with fail
            refine (parts_any (.slice A2 n c2) L w1 (Of (.slice A2 n c2)) (fun j hj => (H1.out.lt j hj).2) (own_parts H1.out (fun y hy => Nat.le_trans (HLz.out.1 y hy) (by unfold maxLen; decide))) (by have := HLz.out.2.1; omega)).mono ?_
            rintro e w2 ⟨v', rfl, h5, h6, h7⟩
            obtain ⟨A3, c3, hu⟩ := own_form h5
            rw [← Hn.out] at hu
            subst hu
            rw [← Hn.out] at h5
            have H5 := Lib.hid h5
            have H6 := Lib.hid (show Fr No w1 w2 from h6)
            have H0 := Lib.hid (own_fr (own_fr Hi.out.own H3.out.1 (fun j hj => (Hi.out.dis j hj).1)) H6.out (fun j _ h => h))
            have H0 : Hid (w2.ownsRow 0 48 2 (.slice A1 m c1) m (got.flatMap encP)) := by have := H0.out; rwa [← Hm.out] at this
            clear h5 h6 h7
            go_wp2_with (at_builtin; go_loud (refine wp_app (news := L.flatMap encP) rfl (.tmp 86) (.tmp 91) 46 rfl 48 (.agg #[.string ByteArray.empty, .bool false]) 2 24 Try.underlying46 infoR rfl (by decide) (.slice A1 m c1) m (got.flatMap encP) rfl H0.out rfl (by rw [encP_len, ← Hn.out]) (own_news H5.out) (encP_one L) (by omega) (by unfold maxLen; omega) ?_; intro v'' w3 h8 h9 h10; have h8' : w3.ownsRow 0 48 2 v'' (got.length + L.length) (got.flatMap encP ++ L.flatMap encP) := (by rw [← Hm.out, ← Hn.out]; exact h8); have hi2 := Hi.out.fed Hr.out HL.out H2.out H3.out H6.out h8' h9 h10 (M := 2600 * (j + 1)) (by omega); have Hi2 := Lib.hid hi2; obtain ⟨A4, c4, hu⟩ := own_form h8; subst hu; clear h8 h9 h10 h8' hi2))
            go_roundw
            case rel => exact ⟨j + 1, m + n, p1, fed ++ x, r2, op1, F1, got ++ L, by go_num, rfl, by omega, by simp; omega, by have h := Hi2.out.sz; unfold sz at h; rw [List.length_append, ← Hm.out, ← Hn.out] at h; omega, (show m + n = _ by rw [List.length_append, ← Hm.out, ← Hn.out]), (show _ = s by rw [List.append_assoc, Hxr.out]; exact Hfr.out), Hi2.out⟩
            case measure => simp [intOf]; omega
          · obtain ⟨q, hq⟩ : ∃ q, q = rest.length := ⟨_, rfl⟩
            have hsl1 := fun W : World => slice_to (P := Try.prog) W 9 Try.underlying9 rest (rest.length : Int) q (by omega) (by omega)
            have hsl2 := fun W : World => slice_from (P := Try.prog) W 9 Try.underlying9 rest (rest.length : Int) q (by omega) (by omega)
            have hq1 : q ≤ rest.length := by omega
            have hq2 : q ≤ 8 := by omega
            have hmi : ¬ ((cn : Int) % 8) ≤ (rest.length : Int) := by omega
            have hmi2 : (rest.length : Int) < ((cn : Int) % 8) := by omega
            have hop := Hi.out.p4
            obtain ⟨x, hx⟩ : ∃ x, x = rest.take q := ⟨_, rfl⟩
            obtain ⟨r2, hr2⟩ : ∃ r2, r2 = rest.drop q := ⟨_, rfl⟩
            have hxr : x ++ r2 = rest := by rw [hx, hr2]; exact List.take_append_drop q rest
            have hxl : x.length = q := by rw [hx]; simp; omega
            have hrl : r2.length = rest.length - q := by rw [hr2]; simp
            rw [← hx] at hsl1
            rw [← hr2] at hsl2
            have Hxr := Lib.hid hxr
            clear hx hr2 hxr
            obtain ⟨p1, op1, hr⟩ : ∃ p1 op1, (feedR p op [] [] x).1 = (p1, op1) := ⟨_, _, rfl⟩
            obtain ⟨L, hL⟩ : ∃ L, flushR (feedR p op [] [] x).2.1 (feedR p op [] [] x).2.2 = L := ⟨_, rfl⟩
            have hLz := feed_sz x p op [] [] hop.1
            rw [hL] at hLz
            have hLz2 := sz_le (N := 20000) (l := L) (Nat.le_trans hLz (by simp [sz, tot]; omega))
            clear hLz
            obtain ⟨n, hn⟩ : ∃ n, n = L.length := ⟨_, rfl⟩
            have hn2 : n ≤ 20000 := by rw [hn]; exact hLz2.2.1
            have Hn := Lib.hid hn
            have HLz := Lib.hid hLz2
            have Hr := Lib.hid hr
            have HL := Lib.hid hL
            clear hr hL hn hLz2
            go_wp2_with fail
            refine (feed_any wr F w0.heap.size p op x Hi.out.sat hop.1 (by omega)).mono ?_
            intro e w1 hp
            obtain ⟨F1, A2, c2, rfl, h1, h2, h3, h4⟩ := hp.known Hr.out HL.out
            have h1' : w1.ownsRow 0 74 2 (.slice A2 n c2) L.length (L.flatMap encP) := by rw [Hn.out]; exact h1
            have H1 := Lib.hid h1'
            have H2 := Lib.hid h2
            have H3 := Lib.hid h3
            rw [← Hn.out]
            clear hp h1 h2 h3 h4 h1'
            go_wp2_with fail
            refine (parts_any (.slice A2 n c2) L w1 (Of (.slice A2 n c2)) (fun j hj => (H1.out.lt j hj).2) (own_parts H1.out (fun y hy => Nat.le_trans (HLz.out.1 y hy) (by unfold maxLen; decide))) (by have := HLz.out.2.1; omega)).mono ?_
            rintro e w2 ⟨v', rfl, h5, h6, h7⟩
            obtain ⟨A3, c3, hu⟩ := own_form h5
            rw [← Hn.out] at hu
            subst hu
            rw [← Hn.out] at h5
            have H5 := Lib.hid h5
            have H6 := Lib.hid (show Fr No w1 w2 from h6)
            have H0 := Lib.hid (own_fr (own_fr Hi.out.own H3.out.1 (fun j hj => (Hi.out.dis j hj).1)) H6.out (fun j _ h => h))
            have H0 : Hid (w2.ownsRow 0 48 2 (.slice A1 m c1) m (got.flatMap encP)) := by have := H0.out; rwa [← Hm.out] at this
            clear h5 h6 h7
            go_wp2_with (at_builtin; go_loud (refine wp_app (news := L.flatMap encP) rfl (.tmp 86) (.tmp 91) 46 rfl 48 (.agg #[.string ByteArray.empty, .bool false]) 2 24 Try.underlying46 infoR rfl (by decide) (.slice A1 m c1) m (got.flatMap encP) rfl H0.out rfl (by rw [encP_len, ← Hn.out]) (own_news H5.out) (encP_one L) (by omega) (by unfold maxLen; omega) ?_; intro v'' w3 h8 h9 h10; have h8' : w3.ownsRow 0 48 2 v'' (got.length + L.length) (got.flatMap encP ++ L.flatMap encP) := (by rw [← Hm.out, ← Hn.out]; exact h8); have hi2 := Hi.out.fed Hr.out HL.out H2.out H3.out H6.out h8' h9 h10 (M := 2600 * (j + 1)) (by omega); have Hi2 := Lib.hid hi2; obtain ⟨A4, c4, hu⟩ := own_form h8; subst hu; clear h8 h9 h10 h8' hi2))
            go_roundw
            case rel => exact ⟨j + 1, m + n, p1, fed ++ x, r2, op1, F1, got ++ L, by go_num, rfl, by omega, by simp; omega, by have h := Hi2.out.sz; unfold sz at h; rw [List.length_append, ← Hm.out, ← Hn.out] at h; omega, (show m + n = _ by rw [List.length_append, ← Hm.out, ← Hn.out]), (show _ = s by rw [List.append_assoc, Hxr.out]; exact Hfr.out), Hi2.out⟩
            case measure => simp [intOf]; omega
        · have hop := Hi.out.p4
          obtain ⟨p1, op1, hr⟩ : ∃ p1 op1, (feedR p op [] [] rest).1 = (p1, op1) := ⟨_, _, rfl⟩
          obtain ⟨L, hL⟩ : ∃ L, flushR (feedR p op [] [] rest).2.1 (feedR p op [] [] rest).2.2 = L := ⟨_, rfl⟩
          have hLz := feed_sz rest p op [] [] hop.1
          rw [hL] at hLz
          have hLz2 := sz_le (N := 20000) (l := L) (Nat.le_trans hLz (by simp [sz, tot]; omega))
          clear hLz
          obtain ⟨n, hn⟩ : ∃ n, n = L.length := ⟨_, rfl⟩
          have hn2 : n ≤ 20000 := by rw [hn]; exact hLz2.2.1
          have Hn := Lib.hid hn
          have HLz := Lib.hid hLz2
          have Hr := Lib.hid hr
          have HL := Lib.hid hL
          clear hr hL hn hLz2
          go_wp2_with fail
          refine (feed_any wr F w0.heap.size p op rest Hi.out.sat hop.1 (by omega)).mono ?_
          intro e w1 hp
          obtain ⟨F1, A2, c2, rfl, h1, h2, h3, h4⟩ := hp.known Hr.out HL.out
          have h1' : w1.ownsRow 0 74 2 (.slice A2 n c2) L.length (L.flatMap encP) := by rw [Hn.out]; exact h1
          have H1 := Lib.hid h1'
          have H2 := Lib.hid h2
          have H3 := Lib.hid h3
          rw [← Hn.out]
          clear hp h1 h2 h3 h4 h1'
          go_wp2_with fail
          refine (parts_any (.slice A2 n c2) L w1 (Of (.slice A2 n c2)) (fun j hj => (H1.out.lt j hj).2) (own_parts H1.out (fun y hy => Nat.le_trans (HLz.out.1 y hy) (by unfold maxLen; decide))) (by have := HLz.out.2.1; omega)).mono ?_
          rintro e w2 ⟨v', rfl, h5, h6, h7⟩
          obtain ⟨A3, c3, hu⟩ := own_form h5
          rw [← Hn.out] at hu
          subst hu
          rw [← Hn.out] at h5
          have H5 := Lib.hid h5
          have H6 := Lib.hid (show Fr No w1 w2 from h6)
          have H0 := Lib.hid (own_fr (own_fr Hi.out.own H3.out.1 (fun j hj => (Hi.out.dis j hj).1)) H6.out (fun j _ h => h))
          have H0 : Hid (w2.ownsRow 0 48 2 (.slice A1 m c1) m (got.flatMap encP)) := by have := H0.out; rwa [← Hm.out] at this
          clear h5 h6 h7
          go_wp2_with (at_builtin; go_loud (refine wp_app (news := L.flatMap encP) rfl (.tmp 96) (.tmp 99) 46 rfl 48 (.agg #[.string ByteArray.empty, .bool false]) 2 24 Try.underlying46 infoR rfl (by decide) (.slice A1 m c1) m (got.flatMap encP) rfl H0.out rfl (by rw [encP_len, ← Hn.out]) (own_news H5.out) (encP_one L) (by omega) (by unfold maxLen; omega) ?_; intro v'' w3 h8 h9 h10; have h8' : w3.ownsRow 0 48 2 v'' (got.length + L.length) (got.flatMap encP ++ L.flatMap encP) := (by rw [← Hm.out, ← Hn.out]; exact h8); have hi2 := Hi.out.fed Hr.out HL.out H2.out H3.out H6.out h8' h9 h10 (M := 200000) (by omega); have Hi2 := Lib.hid hi2; obtain ⟨A4, c4, hu⟩ := own_form h8; subst hu; clear h8 h9 h10 h8' hi2))
          have hrn : run 0 [] (fed ++ rest) = ((0, []), tk x0) := by rw [show fed ++ rest = s from Hfr.out, Hse.out, run_sent]
          have hpr := Hi2.out.run.symm.trans hrn
          injection hpr with hp1 htk
          injection hp1 with hp1 hop1
          subst hp1 hop1
          have J := Lib.hid (joinR_tk htk)
          have htot : tot x0 ≤ 2480 := by have h1 := tot_sent x0; rw [← Hse.out] at h1; omega
          have Hle := Lib.hid (Hi2.out.le (by omega))
          clear hrn htk
          go_wp2_with fail
          refine (join_any _ (got ++ L) w3 (Of (.slice A4 (m + n) c4)) (fun j hj => (Hi2.out.own.lt j hj).2) (own_parts Hi2.out.own Hle.out.1) Hle.out.2.1 (Nat.le_trans Hle.out.2.2 (by decide))).mono ?_
          rintro e w5 ⟨v6, rfl, h1, h2⟩
          have O6 := Lib.hid h1
          have Hi3 : Hid _ := Lib.hid (Hi2.out.quiet h2.1)
          clear h1 h2
          have Fw := Lib.hid (Hf.out.then_no Hi3.out.fr)
          go_wp2_with fail
          refine (join_any _ x0 w5 (Ahead W.heap.size) (fun j hj => Nat.lt_of_lt_of_le hj Fw.out.size) ((RSl.stable RPart.stable).go Hx0.out (Kept.of_no Fw.out (fun k hk => hk)) (fun k hk => hk)) (by omega) (by omega)).mono ?_
          rintro e w6 ⟨v7, rfl, h1, h2⟩
          have O7 := Lib.hid h1
          have O6 : Hid _ := Lib.hid (own_fr O6.out h2.1 (fun _ _ h => h))
          have Hi3 : Hid _ := Lib.hid (Hi3.out.quiet h2.1)
          clear h1 h2
          go_wp2_with fail
          have hsm := same_any v6 v7 _ _ w6 _ _ (own_parts O6.out (joinR_le Hle.out.2.2)) (own_parts O7.out (joinR_le (by omega)))
          rw [decide_eq_true J.out] at hsm
          refine hsm.mono ?_
          clear hsm
          rintro e w7 ⟨rfl, n7, rfl⟩
          have Hi3 : Hid _ := Lib.hid (Hi3.out.quiet ((Fr.refl No w6).drewN n7))
          go_wp2_with fail
          refine (check_any _ _ _ _ _ Hi3.out.sat Hi3.out.p4.1).mono ?_
          rintro e w8 ⟨rfl, rfl⟩
          rw [show checkR 0 = 0 from rfl]
          go_wp2_with fail
          refine (works_any _).mono ?_
          rintro e w9 ⟨rfl, hf⟩
          have Hf9 := Lib.hid hf
          clear hf
          go_wp2_with fail
          go_ret
          exact ⟨rfl, (Hf.out.then_no Hi3.out.fr).then_no Hf9.out⟩
end Mux
end Go.Proofs.Ytagkhljcknnhmaa
