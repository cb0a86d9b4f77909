/- The reference of rights: Pick. Printed by gen_rty.py. -/
import Derived.Test.YtompphakagoaeaaRtX
namespace Go.Proofs.Ytompphakagoaeaa
open Go.RowKit
set_option linter.unusedVariables false
set_option linter.unusedSimpArgs false
namespace Conf
open Word
/-- A console is among those that may be seen, if it is the one of the name and the name may be seen. -/
theorem pick_hit {x : C} {user name : Str} {i : Nat} (h : i < x.1.length) (hs : seesP x user x.1[i].1 = true) (he : (i : Int) = findR x.1 name) : pickR x user name = (findR x.1 name, 0) := by
  obtain ⟨k, hk, h1, h2⟩ := find_at (x := x) (name := name) (by omega)
  have : i = k := by omega
  subst this
  unfold pickR
  rw [if_pos ⟨by omega, by rw [← h2]; exact hs⟩]
theorem pick_miss {x : C} {user name : Str} (h : findR x.1 name ∉ seesR x user) : ¬ (0 ≤ findR x.1 name ∧ seesP x user name = true) := by
  rintro ⟨h0, hs⟩
  obtain ⟨k, hk, h1, h2⟩ := find_at h0
  apply h
  rw [h1]
  exact (places_mem _).2 ⟨k, hk, rfl, by rw [h2]; exact hs⟩
theorem not_take {L : List Int} {j : Nat} {f : Int} (h : f ∉ L.take j) (hj : j < L.length) (he : L[j] ≠ f) : f ∉ L.take (j + 1) := by
  rw [List.take_succ_eq_append_getElem hj]
  intro hm
  rcases List.mem_append.1 hm with hm | hm
  · exact h hm
  · exact he (List.mem_singleton.1 hm).symm
theorem begins_fr (s name : Str) (hs : s.length ≤ 40) (hn : name.length ≤ 40) (w : World) : Calls Try.prog 38 #[.string ⟨s.toArray⟩, .string ⟨name.toArray⟩] w fun e w' => e = .returned (.bool (begP s name)) ∧ Fr No w w' :=
  (begins_any s name hs hn w).mono (fun e w' h => ⟨h.1, h.2 ▸ Fr.refl No _⟩)
set_option maxHeartbeats 4000000 in
theorem rpick_any (c0 : Array Value) (x : C) (user name : Str) (w : World) (S : Nat → Prop) (hS : ∀ k, S k → k < w.heap.size) (h : QConf w S c0.toList x) (hu : user.length ≤ 40) (hn : name.length ≤ 40) :
    Calls Try.prog 20 #[.agg c0, .string ⟨user.toArray⟩, .string ⟨name.toArray⟩] w fun e w' => e = .returned (.tuple #[.int .i64 (pickR x user name).1, .int .i64 (pickR x user name).2]) ∧ Fr No w w' := by
  have hW : Fr No w (w.alloc (.cells c0 28)) := (Fr.refl No w).alloc _
  have HS := Lib.hid hS
  have hbk := Blk.new w 28 c0
  have hst := fun W (hf : Fr No w W) => (show (∀ k, S k → k < W.heap.size) ∧ QConf W S c0.toList x from ⟨fun k hk => Nat.lt_of_lt_of_le (hS k hk) hf.size, stable_q.go h (Kept.of_no hf hS) (fun b hb => hb)⟩)
  have HFI := Lib.hid (fun W (hf : Fr No w W) => rfind_any c0 x name W S (hst W hf).1 (hst W hf).2)
  have HSE := Lib.hid (fun W (hf : Fr No w W) => rsees_any c0 x user W S (hst W hf).1 (hst W hf).2 hu)
  have HBG := Lib.hid (fun (s : Str) (hs : s.length ≤ 40) (W : World) => begins_fr s name hs hn W)
  obtain ⟨AC, kC, AG, kG, AU, kU, AA, kA, s0, s1, s2, s3, s4, s5, s6, s7, s8, s9, rfl, hC, -, -, -⟩ := q_lit h
  obtain ⟨hA1, hA2⟩ : x.1.length ≤ kC ∧ kC ≤ 9223372036854775807 := by
    obtain ⟨A', c, e, h1, h2, -⟩ := hC.1
    injection e with e _
    injection e with _ _ e
    subst e
    exact ⟨h1, h2⟩
  have hl12 := hC.2
  have HC := Lib.hid hC
  have hfl := find_lt (l := x.1) (name := name)
  clear h hS hst hC
  generalize x.2.2.2.1.length = nA at HFI HSE hbk hW ⊢
  generalize x.2.2.1.length = nU at HFI HSE hbk hW ⊢
  generalize x.2.1.length = nG at HFI HSE hbk hW ⊢
  go_enter Try.func20, Try.ntmps20
  have y0 := hbk.cell 0
  have y1 := hbk.cell 1
  have y2 := hbk.cell 2
  have y3 := hbk.cell 3
  have y4 := hbk.cell 4
  have y5 := hbk.cell 5
  have y6 := hbk.cell 6
  have y7 := hbk.cell 7
  have y8 := hbk.cell 8
  have y9 := hbk.cell 9
  have y10 := hbk.cell 10
  have y11 := hbk.cell 11
  have y12 := hbk.cell 12
  have y13 := hbk.cell 13
  simp only [List.getElem?_toArray, List.getElem?_cons_zero, List.getElem?_cons_succ] at y0 y1 y2 y3 y4 y5 y6 y7 y8 y9 y10 y11 y12 y13
  go_wp2_with fail
  refine (HFI.out _ hW).mono ?_
  rintro e w1 ⟨rfl, hf⟩
  have HB1 := Lib.hid (hbk.fr hf (fun h => h))
  have F1 := Lib.hid (hW.then_no hf)
  obtain ⟨bc, hbc⟩ : ∃ bc, w.heap.size = bc := ⟨_, rfl⟩
  rw [hbc] at HB1 ⊢
  clear y0 y1 y2 y3 y4 y5 y6 y7 y8 y9 y10 y11 y12 y13
  clear hbc hf hbk hW
  obtain ⟨fi, hfi⟩ : ∃ fi, findR x.1 name = fi := ⟨_, rfl⟩
  have HFD := Lib.hid hfi
  rw [hfi] at hfl ⊢
  clear hfi
  have y0 := HB1.out.cell 0
  have y1 := HB1.out.cell 1
  have y2 := HB1.out.cell 2
  have y3 := HB1.out.cell 3
  have y4 := HB1.out.cell 4
  have y5 := HB1.out.cell 5
  have y6 := HB1.out.cell 6
  have y7 := HB1.out.cell 7
  have y8 := HB1.out.cell 8
  have y9 := HB1.out.cell 9
  have y10 := HB1.out.cell 10
  have y11 := HB1.out.cell 11
  have y12 := HB1.out.cell 12
  have y13 := HB1.out.cell 13
  simp only [List.getElem?_toArray, List.getElem?_cons_zero, List.getElem?_cons_succ] at y0 y1 y2 y3 y4 y5 y6 y7 y8 y9 y10 y11 y12 y13
  go_wp2_with fail
  refine (HSE.out _ F1.out).mono ?_
  rintro e w2 ⟨v2, rfl, ho, hs⟩
  have F2 := Lib.hid (F1.out.then_no hs.1)
  have HB2 := Lib.hid (HB1.out.fr hs.1 (fun h => h))
  have HO := Lib.hid ho
  clear y0 y1 y2 y3 y4 y5 y6 y7 y8 y9 y10 y11 y12 y13
  clear ho hs
  obtain ⟨WW, e1⟩ : ∃ WW, WW = w2 := ⟨_, rfl⟩
  subst e1
  have HLM := Lib.hid (fun n (hn : n ∈ seesR x user) => sees_lt hn)
  have hLl := sees_len x user
  have HPM := Lib.hid (fun (h : findR x.1 name ∉ seesR x user) => pick_miss h)
  have HPK := Lib.hid (fun (hd : ¬ (0 ≤ findR x.1 name ∧ seesP x user name = true)) => (show pickR x user name = (match (seesR x user).filter (fun n => begP (nameAt x n) name) with | [] => (-1, if 0 ≤ findR x.1 name then 10 else 7) | [n] => (n, 0) | _ => (-1, 8)) from by unfold pickR; rw [if_neg hd]; rfl))
  obtain ⟨L, hL⟩ : ∃ L, seesR x user = L := ⟨_, rfl⟩
  rw [hL] at HLM hLl HPK HPM HO
  clear hL
  obtain ⟨A2, c2, hu2⟩ := own_form HO.out
  subst hu2
  have hlo := own_len HO.out
  have hlcb := HB2.out.lt
  go_wp2_with fail
  go_loopw [10, 11, 12] (fun nv av jv wr => ∃ (j m : Nat) (out : List Int) (la : Int), nv = .int .i64 m ∧ av = .int .i64 la ∧ jv = .int .i64 j ∧ j ≤ L.length ∧ m ≤ j ∧ Hid (out.length = m ∧ (L.take j).filter (fun n => begP (nameAt x n) name) = out ∧ (out ≠ [] → out.getLast? = some la) ∧ findR x.1 name ∉ L.take j) ∧ Hid (Fr No WW wr)) (fun _ _ j _ => L.length - (intOf j).toNat)
  case atStart => exact ⟨0, 0, [], 0, rfl, rfl, rfl, by omega, by omega, Lib.hid ⟨rfl, rfl, fun h => absurd rfl h, fun h => by cases h⟩, Lib.hid (Fr.refl _ _)⟩
  case round =>
    obtain ⟨j, m, out, la, rfl, rfl, rfl, hj, hm, Hd, HP⟩ := hrel
    have y0 := (HP.out.cell (p := ⟨bc, 0, none⟩) hlcb (fun h => h)).trans (HB2.out.cell 0)
    simp only [List.getElem?_toArray, List.getElem?_cons_zero] at y0
    by_cases hjl : j < L.length
    · have hfs := Lib.hid (filter_step (p := fun n => begP (nameAt x n) name) hjl)
      obtain ⟨i, hi, hni, hse⟩ := HLM.out L[j] (List.getElem_mem hjl)
      obtain ⟨ad2, rfl, z0⟩ := own_news HO.out j (encI L[j]) (by rw [List.getElem?_map, List.getElem?_eq_getElem hjl]; rfl)
      have hb2 := (HO.out.lt ad2.block (by
        rcases HO.out.2 with ⟨h0, _⟩ | ⟨g, cap', cur, h0, _⟩
        · cases h0
        · injection h0 with h0 _
          injection h0 with h0
          subst h0
          rfl)).2
      have z1 := (HP.out.cell (p := ad2.add j) (by rw [block_add]; exact hb2) (fun h => h)).trans z0
      change wr.cell? (ad2.add j) = some (.int .i64 L[j]) at z1
      rw [hni] at z1
      have hna := nameAt_eq hi
      rw [← hni] at hna
      by_cases heq : (i : Int) = fi
      · have HR := Lib.hid (show pickR x user name = (fi, 0) from by rw [pick_hit hi hse (by rw [HFD.out]; exact heq), HFD.out])
        have HF := Lib.hid (F2.out.then_no HP.out)
        clear z0 hni hna hfs hse y0
        go_wp2_with fail
        go_ret2
        exact ⟨by rw [HR.out]; first | rfl | rw [heq], HF.out⟩
      · have hnt := Lib.hid (not_take Hd.out.2.2.2 hjl (by rw [hni, HFD.out]; exact heq))
        obtain ⟨ad, n1, n2, n3, n4, n5, n6, n7, n8, b, rfl, hla, k0, -, -, -, -, -, -, -, -, -, b1⟩ := con_at HC.out (F2.out.then_no HP.out) HS.out hi
        have Hni := Lib.hid hni
        obtain ⟨a, ha⟩ : ∃ a, a = x.1[i].1 := ⟨_, rfl⟩
        rw [← ha] at k0 b1 hna
        have hba : Hid ((L.take (j + 1)).filter (fun n => begP (nameAt x n) name) = out ++ (if begP a name = true then [(i : Int)] else [])) := Lib.hid (by rw [hfs.out, Hd.out.2.1, hna, Hni.out])
        have hlw : (ad.add (i * 10)).block < wr.heap.size := by have := F2.out.size; have := HP.out.size; omega
        have hla2 : (ad2.add j).block < wr.heap.size := by rw [block_add]; have := HP.out.size; omega
        have hlcw : bc < wr.heap.size := by have := HP.out.size; omega
        have HB9 := Lib.hid (fun W => HBG.out a b1 W)
        clear z0 hni hna ha hfs hse
        obtain ⟨r, hr⟩ : ∃ r, begP a name = r := ⟨_, rfl⟩
        rw [hr] at hba HB9
        clear hr
        have HK := Lib.hid (fun (W' : World) (hf : Fr No wr W') => (show W'.cell? ⟨bc, 0, none⟩ = some (.slice (some ad) x.1.length kC) ∧ W'.cell? (ad.add (i * 10)) = some (.string ⟨a.toArray⟩) ∧ W'.cell? (ad2.add j) = some (.int .i64 i) from
          ⟨(hf.cell (p := ⟨bc, 0, none⟩) hlcw (fun h => h)).trans y0, (hf.cell (p := ad.add (i * 10)) hlw (fun h => h)).trans k0, (hf.cell (p := ad2.add j) hla2 (fun h => h)).trans z1⟩))
        go_wp2_with fail
        go_region_held3 (fun W' => W'.cell? ⟨bc, 0, none⟩ = some (.slice (some ad) x.1.length kC) ∧ W'.cell? (ad.add (i * 10)) = some (.string ⟨a.toArray⟩) ∧ W'.cell? (ad2.add j) = some (.int .i64 i)) ((refine HK.out _ ?_; repeat' (first | with_reducible assumption | with_reducible exact Fr.refl _ _ | with_reducible refine Fr.drew ?_))) ((go_at_call 38; refine (HB9.out _).mono ?_; rintro e w9 ⟨rfl, hf⟩; have hf9 : Fr No wr w9 := (by first | exact hf | exact ((Fr.refl No wr).drew).then_no hf); have F9 := Lib.hid hf9; clear hf))
        all_goals
          have z9 := (HK.out _ F9.out).2.2
          clear hf9 y0 z1 k0
          cases r
          · go_wp2_with fail
            go_roundw
            case rel => exact ⟨j + 1, m, out, la, rfl, rfl, by go_num, by omega, by omega, Lib.hid ⟨Hd.out.1, by rw [hba.out]; simp, Hd.out.2.2.1, hnt.out⟩, Lib.hid (HP.out.then_no F9.out)⟩
            case measure => simp [intOf]; omega
          · go_wp2_with fail
            go_quiet (fail)
            go_wp2_with fail
            go_roundw
            case rel => exact ⟨j + 1, m + 1, out ++ [(i : Int)], i, by go_num, rfl, by go_num, by omega, by omega, Lib.hid ⟨by rw [List.length_append, Hd.out.1]; rfl, by rw [hba.out]; simp, fun _ => by simp, hnt.out⟩, Lib.hid ((HP.out.then_no F9.out).drewN _)⟩
            case measure => simp [intOf]; omega
    · have hout : Hid (L.filter (fun n => begP (nameAt x n) name) = out ∧ out.length = m) := Lib.hid ⟨by have := Hd.out.2.1; rw [List.take_of_length_le (by omega)] at this; exact this, Hd.out.1⟩
      have HPQ := Lib.hid (HPK.out (HPM.out (by have := Hd.out.2.2.2; rw [List.take_of_length_le (by omega)] at this; exact this)))
      rw [HFD.out] at HPQ
      have HF := Lib.hid (F2.out.then_no HP.out)
      clear y0
      by_cases hm0 : m = 0
      · have ho0 : out = [] := List.eq_nil_of_length_eq_zero (by have := hout.out.2; omega)
        subst hm0
        by_cases h0 : 0 ≤ fi
        · have HR := Lib.hid (show pickR x user name = (-1, 10) from by rw [HPQ.out, hout.out.1, ho0]; simp [h0])
          go_wp2_with fail
          go_ret2
          exact ⟨by rw [HR.out]; rfl, HF.out⟩
        · have HR := Lib.hid (show pickR x user name = (-1, 7) from by rw [HPQ.out, hout.out.1, ho0]; simp [h0])
          go_wp2_with fail
          go_ret2
          exact ⟨by rw [HR.out]; rfl, HF.out⟩
      by_cases hm1 : m = 1
      · obtain ⟨n, hn1⟩ : ∃ n, out = [n] := List.length_eq_one_iff.1 (by have := hout.out.2; omega)
        subst hm1
        have HR := Lib.hid (show pickR x user name = (la, 0) from by
          have h3 := Hd.out.2.2.1 (by rw [hn1]; exact List.cons_ne_nil _ _)
          rw [hn1] at h3
          injection h3 with h3
          rw [HPQ.out, hout.out.1, hn1, ← (show n = la from h3)])
        clear hn1
        go_wp2_with fail
        go_ret2
        exact ⟨by rw [HR.out]; rfl, HF.out⟩
      · have HR := Lib.hid (show pickR x user name = (-1, 8) from by
          rw [HPQ.out, hout.out.1]
          have h2 := hout.out.2
          match out, h2 with
          | [], h => exact absurd h.symm hm0
          | [_], h => exact absurd h.symm hm1
          | _ :: _ :: _, _ => rfl)
        go_wp2_with fail
        go_ret2
        exact ⟨by rw [HR.out]; rfl, HF.out⟩
end Conf
end Go.Proofs.Ytompphakagoaeaa
