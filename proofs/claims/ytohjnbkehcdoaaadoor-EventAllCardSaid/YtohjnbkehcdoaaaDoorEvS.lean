/- Package event: the law EventAll, walked. Printed by gen_evs.py. -/
import Derived.Test.YtohjnbkehcdoaaaDoorEvQ
namespace Go.Proofs.YtohjnbkehcdoaaaDoor
open Go.RowKit
set_option linter.unusedVariables false
set_option linter.unusedSimpArgs false
namespace Ev
open Digit Sls
theorem rsl_map {W : World} {S : Nat → Prop} {cs : List Value} {x : List EvX} (h : RSl 5 REX W S cs x) : RSl 5 REv W S cs (x.map toE) := by
  obtain ⟨A, cap, h1, h2, h3, h4, h5⟩ := h
  refine ⟨A, cap, by rw [List.length_map]; exact h1, by rw [List.length_map]; exact h2, h3, h4, fun i hi => ?_⟩
  rw [List.length_map] at hi
  obtain ⟨ad, ecs, g1, g2, g3, g4, g5⟩ := h5 i hi
  obtain ⟨e1, e2⟩ := ev_arg g5
  exact ⟨ad, ecs, g1, g2, g3, g4, by rw [List.getElem_map]; exact ⟨e1, e2⟩⟩
set_option maxRecDepth 100000 in
set_option maxHeartbeats 8000000 in
theorem alls_any (s : Str) (v : Value) (l : List E) (W : World) (hv : RSl 5 REv W (Ahead W.heap.size) [v] l) (hg : EtAt W) : Calls Tryd.prog 5 #[.string ⟨s.toArray⟩, v] W (WorksIs W) := by
  obtain ⟨A, cap, rfl, hc1, hc2, hel⟩ := ev_cells hv
  have HV := Lib.hid hv
  have Hel := Lib.hid hel
  have HG := Lib.hid hg
  clear hv hel hg
  unfold maxLen at hc2
  have hfin : ∀ W1, Fr No W W1 → Calls Tryd.prog 6 #[] W1 (WorksIs W1) := fun W1 h => works_any W1 (HG.out.no h)
  have HW := Lib.hid hfin
  clear hfin
  by_cases hlen : s.length ≤ 2000
  case neg =>
    have hln : 2000 < s.length := by omega
    clear hlen
    go_enter Tryd.func5, Tryd.ntmps5
    go_wp2_with fail
    refine (HW.out _ (Fr.refl No W)).mono ?_
    rintro x wz ⟨rfl, hf⟩
    have FZ := Lib.hid (((Fr.refl No W)).then_no hf)
    clear hf
    go_wp2_with fail
    go_ret
    exact ⟨rfl, FZ.out⟩
  case pos =>
    have hln : ¬ 2000 < s.length := by omega
    by_cases hl2 : 20 < l.length
    · go_enter Tryd.func5, Tryd.ntmps5
      go_wp2_with fail
      refine (HW.out _ (Fr.refl No W)).mono ?_
      rintro x wz ⟨rfl, hf⟩
      have FZ := Lib.hid (((Fr.refl No W)).then_no hf)
      clear hf
      go_wp2_with fail
      go_ret
      exact ⟨rfl, FZ.out⟩
    · have HA := Lib.hid (fun W => all_any s W (by omega))
      have HR := Lib.hid (fun W => rall_any s W (by omega))
      clear hlen
      cases hall : allE s with
      | ok o =>
        rw [hall] at HA HR
        unfold AllIs at HA
        unfold RallIs at HR
        simp only at HA HR
        clear hall
        go_enter Tryd.func5, Tryd.ntmps5
        go_wp2_with fail
        refine (HA.out _).mono ?_
        rintro x w1 ⟨va, rfl, ra, hf⟩
        have F1 := Lib.hid hf
        have RA1 := Lib.hid ra
        clear hf ra HA
        go_wp2_with fail
        refine (HR.out _).mono ?_
        rintro x w2 ⟨vb, rfl, rb, hf⟩
        have F2 := Lib.hid (F1.out.then_no hf)
        have HS := Lib.hid (same_any va vb o o w2 _ _ (rsl_no RA1.out (fun k h => h.2) hf) rb)
        clear hf rb HR F1 RA1
        go_wp2_with fail
        refine HS.out.mono ?_
        rintro x w3 ⟨rfl, nn, hw⟩
        simp only [decide_true]
        have F3 := Lib.hid (show Fr No W w3 from by rw [hw]; exact F2.out.drewN nn)
        clear hw HS F2
        go_wp2_with fail
        refine (of_nil _).mono ?_
        rintro x w4 ⟨rfl, hf⟩
        have F4 := Lib.hid (F3.out.then_no hf)
        clear hf F3
        go_wp2_with fail
        refine (line_nil _).mono ?_
        rintro x w5 ⟨rfl, hf⟩
        have F6 := Lib.hid (F4.out.then_no hf)
        clear hf F4
        go_wp2_with fail
        go_loopw [10, 11] (fun f i wr => ∃ (k : Nat) (c : Int), i = .int .i64 k ∧ f = .int .i64 c ∧ k ≤ l.length ∧ Hid (c = firstF (l.take k)) ∧ Hid (∀ e ∈ l.take k, e.s.length ≤ 200) ∧ Hid (Fr No W wr)) (fun _ i _ => l.length - (intOf i).toNat)
        case atStart => exact ⟨0, 0, rfl, rfl, by omega, Lib.hid rfl, (fun e he => by simp at he), F6.out⟩
        case round =>
          obtain ⟨k, c, rfl, rfl, hk, HC, HL, F⟩ := hrel
          clear F6
          by_cases hlt : k < l.length
          · obtain ⟨ad, hA, hin, c0, c1, c2, c3, c4, -⟩ := Hel.out k hlt
            have hlt0 : ad.block < W.heap.size := hin
            have F0 := F.out
            have k0 : wr.cell? (ad.add (k * 5)) = _ := (F0.cell (p := ad.add (k * 5)) (by rw [block_add]; exact hlt0) (fun h => h)).trans c0
            have k1 : wr.cell? (⟨(ad.add (k * 5)).block, (ad.add (k * 5)).off + 1, none⟩) = _ := (F0.cell (p := ⟨(ad.add (k * 5)).block, (ad.add (k * 5)).off + 1, none⟩) (by show (ad.add (k * 5)).block < _; rw [block_add]; exact hlt0) (fun h => h)).trans c1
            have k2 : wr.cell? (⟨(ad.add (k * 5)).block, (ad.add (k * 5)).off + 2, none⟩) = _ := (F0.cell (p := ⟨(ad.add (k * 5)).block, (ad.add (k * 5)).off + 2, none⟩) (by show (ad.add (k * 5)).block < _; rw [block_add]; exact hlt0) (fun h => h)).trans c2
            have k3 : wr.cell? (⟨(ad.add (k * 5)).block, (ad.add (k * 5)).off + 3, none⟩) = _ := (F0.cell (p := ⟨(ad.add (k * 5)).block, (ad.add (k * 5)).off + 3, none⟩) (by show (ad.add (k * 5)).block < _; rw [block_add]; exact hlt0) (fun h => h)).trans c3
            have k4 : wr.cell? (⟨(ad.add (k * 5)).block, (ad.add (k * 5)).off + 4, none⟩) = _ := (F0.cell (p := ⟨(ad.add (k * 5)).block, (ad.add (k * 5)).off + 4, none⟩) (by show (ad.add (k * 5)).block < _; rw [block_add]; exact hlt0) (fun h => h)).trans c4
            have HC2 := Lib.hid (show firstF (l.take (k + 1)) = if c = 0 then checkE l[k] else c from by rw [List.take_succ_eq_append_getElem hlt, firstF_snoc, ← HC.out])
            have HL2 := Lib.hid (show l[k].s.length ≤ 200 → ∀ e ∈ l.take (k + 1), e.s.length ≤ 200 from fun h e he => by
              rw [List.take_succ_eq_append_getElem hlt] at he
              rcases List.mem_append.1 he with he | he
              · exact HL.out e he
              · rw [List.mem_singleton.1 he]; exact h)
            obtain ⟨e, he⟩ : ∃ e, e = l[k] := ⟨_, rfl⟩
            rw [← he] at k0 k1 k2 k3 k4 HC2 HL2
            subst hA
            clear he c0 c1 c2 c3 c4 hin hlt0 F0 HC HL
            have HCK := Lib.hid (fun W => rcheck_any e W)
            obtain ⟨ek, ew, en, eo, es⟩ := e
            unfold cE at HCK
            simp only at k0 k1 k2 k3 k4 HC2 HL2 HCK
            by_cases h200 : es.length ≤ 200
            · have h201 : ¬ 200 < es.length := by omega
              have HL3 := Lib.hid (HL2.out h200)
              clear HL2 h200
              by_cases hc : c = 0
              · subst hc
                have HC3 := Lib.hid (show firstF (l.take (k + 1)) = checkE ⟨ek, ew, en, eo, es⟩ from by rw [HC2.out, if_pos rfl])
                clear HC2
                go_wp2_with fail
                refine (HCK.out _).mono ?_
                rintro x w7 ⟨rfl, hf⟩
                have F7 := Lib.hid (F.out.then_no hf)
                clear hf k0 k1 k2 k3 k4 F HCK
                go_wp2_with fail
                go_roundw
                case rel => exact ⟨k + 1, _, by go_num, rfl, by omega, HC3.out.symm, HL3.out, F7.out⟩
                case measure => simp [intOf] <;> omega
              · have hcb : (c == 0) = false := by rw [beq_eq_false_iff_ne]; exact hc
                have HC3 := Lib.hid (show firstF (l.take (k + 1)) = c from by rw [HC2.out, if_neg hc])
                clear HC2 hc HCK
                go_wp2_with fail
                go_roundw
                case rel => exact ⟨k + 1, c, by go_num, rfl, by omega, HC3.out.symm, HL3.out, F.out⟩
                case measure => simp [intOf] <;> omega
            · have h201 : 200 < es.length := by omega
              clear h200 HL2 HC2 HCK
              go_wp2_with fail
              refine (HW.out _ F.out).mono ?_
              rintro x wz ⟨rfl, hf⟩
              have FZ := Lib.hid ((F.out).then_no hf)
              clear hf
              go_wp2_with fail
              go_ret
              exact ⟨rfl, FZ.out⟩
          · have HC2 := Lib.hid (show c = firstF l from by rw [HC.out, List.take_of_length_le (by omega)])
            have HL2 := Lib.hid (show ∀ e ∈ l, e.s.length ≤ 200 from fun e he => HL.out e (by rw [List.take_of_length_le (by omega)]; exact he))
            have HT := Lib.hid (text_any _ l wr _ (rsl_no HV.out (fun _ h => h) F.out) (fun b hb => Nat.lt_of_lt_of_le hb F.out.size) (by omega) (fun e he => Nat.le_trans (HL2.out e he) (by decide)))
            clear HC HL
            go_wp2_with fail
            refine HT.out.mono ?_
            unfold TextIs
            rintro x w7 ⟨rfl, hf⟩
            have F7 := Lib.hid (F.out.then_no hf)
            clear hf F HT
            rw [textE_eq]
            by_cases hc : firstF l = 0
            · rw [if_pos hc]
              obtain rfl : c = 0 := HC2.out.trans hc
              have HA := Lib.hid (fun W => all_ok (all_text hc) (by have := linesT_len HL2.out; omega) W)
              obtain ⟨z, hz⟩ : ∃ z, z = linesT l := ⟨_, rfl⟩
              rw [← hz] at HA ⊢
              clear hz hc HC2
              simp only
              go_wp2_with fail
              refine (HA.out _).mono ?_
              unfold OkIs
              rintro x w8 ⟨vc, rfl, rc, hf⟩
              have F8 := Lib.hid (F7.out.then_no hf)
              have HS := Lib.hid (same_any vc _ l l w8 _ _ rc (rsl_no HV.out (fun _ h => h) F8.out))
              clear hf F7 HA rc
              go_wp2_with fail
              refine HS.out.mono ?_
              rintro x w9 ⟨rfl, nn, hw⟩
              simp only [decide_true]
              have F9 := Lib.hid (show Fr No W w9 from by rw [hw]; exact F8.out.drewN nn)
              clear hw HS F8
              go_wp2_with fail
              refine (HW.out _ F9.out).mono ?_
              rintro x wz ⟨rfl, hf⟩
              have FZ := Lib.hid ((F9.out).then_no hf)
              clear hf
              go_wp2_with fail
              go_ret
              exact ⟨rfl, FZ.out⟩
            · rw [if_neg hc]
              have hcb : (firstF l != 0) = true := by rw [bne_iff_ne]; exact hc
              have hcb2 : (firstF l == 0) = false := by rw [beq_eq_false_iff_ne]; exact hc
              obtain rfl := HC2.out
              clear HC2 hc
              obtain ⟨c, hcc⟩ : ∃ c, c = firstF l := ⟨_, rfl⟩
              rw [← hcc] at hcb hcb2 ⊢
              clear hcc
              simp only
              go_wp2_with fail
              refine (HW.out _ F7.out).mono ?_
              rintro x wz ⟨rfl, hf⟩
              have FZ := Lib.hid ((F7.out).then_no hf)
              clear hf
              go_wp2_with fail
              go_ret
              exact ⟨rfl, FZ.out⟩
      | error n =>
        rw [hall] at HA HR
        have hn := all_err hall
        unfold AllIs at HA
        unfold RallIs at HR
        simp only at HA HR
        clear hall
        go_enter Tryd.func5, Tryd.ntmps5
        go_wp2_with fail
        refine (HA.out _).mono ?_
        rintro x w1 ⟨b, rfl, hb, hf, -⟩
        have F1 := Lib.hid hf
        have B1 := Lib.hid hb
        clear hf hb HA
        go_wp2_with fail
        refine (HR.out _).mono ?_
        rintro x w2 ⟨rfl, hf⟩
        have F2 := Lib.hid (F1.out.then_no hf)
        have B2 := Lib.hid (B1.out.fr hf (fun h => h))
        have hnil : RSl 5 REv w2 No [.slice none 0 0] ([] : List E) := ⟨none, 0, rfl, Nat.le_refl _, Nat.zero_le _, fun _ => rfl, fun i hi => by simp at hi⟩
        have HS := Lib.hid (same_any _ _ [] [] w2 _ _ hnil hnil)
        clear hf HR F1 B1 hnil
        go_wp2_with fail
        refine HS.out.mono ?_
        rintro x w3 ⟨rfl, nn, hw⟩
        simp only [decide_true]
        have hf := (Fr.refl No w2).drewN nn
        rw [← hw] at hf
        have F3 := Lib.hid (F2.out.then_no hf)
        have B3 := Lib.hid (B2.out.fr hf (fun h => h))
        clear hw HS F2 B2 hf
        have HO := Lib.hid (of_fault b _ _ _ w3 (HG.out.no F3.out) B3.out)
        go_wp2_with fail
        refine HO.out.mono ?_
        rintro x w4 ⟨rfl, hf⟩
        have F4 := Lib.hid (F3.out.then_no hf)
        have B4 := Lib.hid (B3.out.fr hf (fun h => h))
        clear hf F3 B3 HO
        have HO := Lib.hid (line_fault b _ _ _ w4 (HG.out.no F4.out) B4.out (by omega))
        go_wp2_with fail
        refine HO.out.mono ?_
        rintro x w5 ⟨rfl, hf⟩
        have F6 := Lib.hid (F4.out.then_no hf)
        clear hf F4 B4 HO hn
        go_wp2_with fail
        go_loopw [10, 11] (fun f i wr => ∃ (k : Nat) (c : Int), i = .int .i64 k ∧ f = .int .i64 c ∧ k ≤ l.length ∧ Hid (c = firstF (l.take k)) ∧ Hid (∀ e ∈ l.take k, e.s.length ≤ 200) ∧ Hid (Fr No W wr)) (fun _ i _ => l.length - (intOf i).toNat)
        case atStart => exact ⟨0, 0, rfl, rfl, by omega, Lib.hid rfl, (fun e he => by simp at he), F6.out⟩
        case round =>
          obtain ⟨k, c, rfl, rfl, hk, HC, HL, F⟩ := hrel
          clear F6
          by_cases hlt : k < l.length
          · obtain ⟨ad, hA, hin, c0, c1, c2, c3, c4, -⟩ := Hel.out k hlt
            have hlt0 : ad.block < W.heap.size := hin
            have F0 := F.out
            have k0 : wr.cell? (ad.add (k * 5)) = _ := (F0.cell (p := ad.add (k * 5)) (by rw [block_add]; exact hlt0) (fun h => h)).trans c0
            have k1 : wr.cell? (⟨(ad.add (k * 5)).block, (ad.add (k * 5)).off + 1, none⟩) = _ := (F0.cell (p := ⟨(ad.add (k * 5)).block, (ad.add (k * 5)).off + 1, none⟩) (by show (ad.add (k * 5)).block < _; rw [block_add]; exact hlt0) (fun h => h)).trans c1
            have k2 : wr.cell? (⟨(ad.add (k * 5)).block, (ad.add (k * 5)).off + 2, none⟩) = _ := (F0.cell (p := ⟨(ad.add (k * 5)).block, (ad.add (k * 5)).off + 2, none⟩) (by show (ad.add (k * 5)).block < _; rw [block_add]; exact hlt0) (fun h => h)).trans c2
            have k3 : wr.cell? (⟨(ad.add (k * 5)).block, (ad.add (k * 5)).off + 3, none⟩) = _ := (F0.cell (p := ⟨(ad.add (k * 5)).block, (ad.add (k * 5)).off + 3, none⟩) (by show (ad.add (k * 5)).block < _; rw [block_add]; exact hlt0) (fun h => h)).trans c3
            have k4 : wr.cell? (⟨(ad.add (k * 5)).block, (ad.add (k * 5)).off + 4, none⟩) = _ := (F0.cell (p := ⟨(ad.add (k * 5)).block, (ad.add (k * 5)).off + 4, none⟩) (by show (ad.add (k * 5)).block < _; rw [block_add]; exact hlt0) (fun h => h)).trans c4
            have HC2 := Lib.hid (show firstF (l.take (k + 1)) = if c = 0 then checkE l[k] else c from by rw [List.take_succ_eq_append_getElem hlt, firstF_snoc, ← HC.out])
            have HL2 := Lib.hid (show l[k].s.length ≤ 200 → ∀ e ∈ l.take (k + 1), e.s.length ≤ 200 from fun h e he => by
              rw [List.take_succ_eq_append_getElem hlt] at he
              rcases List.mem_append.1 he with he | he
              · exact HL.out e he
              · rw [List.mem_singleton.1 he]; exact h)
            obtain ⟨e, he⟩ : ∃ e, e = l[k] := ⟨_, rfl⟩
            rw [← he] at k0 k1 k2 k3 k4 HC2 HL2
            subst hA
            clear he c0 c1 c2 c3 c4 hin hlt0 F0 HC HL
            have HCK := Lib.hid (fun W => rcheck_any e W)
            obtain ⟨ek, ew, en, eo, es⟩ := e
            unfold cE at HCK
            simp only at k0 k1 k2 k3 k4 HC2 HL2 HCK
            by_cases h200 : es.length ≤ 200
            · have h201 : ¬ 200 < es.length := by omega
              have HL3 := Lib.hid (HL2.out h200)
              clear HL2 h200
              by_cases hc : c = 0
              · subst hc
                have HC3 := Lib.hid (show firstF (l.take (k + 1)) = checkE ⟨ek, ew, en, eo, es⟩ from by rw [HC2.out, if_pos rfl])
                clear HC2
                go_wp2_with fail
                refine (HCK.out _).mono ?_
                rintro x w7 ⟨rfl, hf⟩
                have F7 := Lib.hid (F.out.then_no hf)
                clear hf k0 k1 k2 k3 k4 F HCK
                go_wp2_with fail
                go_roundw
                case rel => exact ⟨k + 1, _, by go_num, rfl, by omega, HC3.out.symm, HL3.out, F7.out⟩
                case measure => simp [intOf] <;> omega
              · have hcb : (c == 0) = false := by rw [beq_eq_false_iff_ne]; exact hc
                have HC3 := Lib.hid (show firstF (l.take (k + 1)) = c from by rw [HC2.out, if_neg hc])
                clear HC2 hc HCK
                go_wp2_with fail
                go_roundw
                case rel => exact ⟨k + 1, c, by go_num, rfl, by omega, HC3.out.symm, HL3.out, F.out⟩
                case measure => simp [intOf] <;> omega
            · have h201 : 200 < es.length := by omega
              clear h200 HL2 HC2 HCK
              go_wp2_with fail
              refine (HW.out _ F.out).mono ?_
              rintro x wz ⟨rfl, hf⟩
              have FZ := Lib.hid ((F.out).then_no hf)
              clear hf
              go_wp2_with fail
              go_ret
              exact ⟨rfl, FZ.out⟩
          · have HC2 := Lib.hid (show c = firstF l from by rw [HC.out, List.take_of_length_le (by omega)])
            have HL2 := Lib.hid (show ∀ e ∈ l, e.s.length ≤ 200 from fun e he => HL.out e (by rw [List.take_of_length_le (by omega)]; exact he))
            have HT := Lib.hid (text_any _ l wr _ (rsl_no HV.out (fun _ h => h) F.out) (fun b hb => Nat.lt_of_lt_of_le hb F.out.size) (by omega) (fun e he => Nat.le_trans (HL2.out e he) (by decide)))
            clear HC HL
            go_wp2_with fail
            refine HT.out.mono ?_
            unfold TextIs
            rintro x w7 ⟨rfl, hf⟩
            have F7 := Lib.hid (F.out.then_no hf)
            clear hf F HT
            rw [textE_eq]
            by_cases hc : firstF l = 0
            · rw [if_pos hc]
              obtain rfl : c = 0 := HC2.out.trans hc
              have HA := Lib.hid (fun W => all_ok (all_text hc) (by have := linesT_len HL2.out; omega) W)
              obtain ⟨z, hz⟩ : ∃ z, z = linesT l := ⟨_, rfl⟩
              rw [← hz] at HA ⊢
              clear hz hc HC2
              simp only
              go_wp2_with fail
              refine (HA.out _).mono ?_
              unfold OkIs
              rintro x w8 ⟨vc, rfl, rc, hf⟩
              have F8 := Lib.hid (F7.out.then_no hf)
              have HS := Lib.hid (same_any vc _ l l w8 _ _ rc (rsl_no HV.out (fun _ h => h) F8.out))
              clear hf F7 HA rc
              go_wp2_with fail
              refine HS.out.mono ?_
              rintro x w9 ⟨rfl, nn, hw⟩
              simp only [decide_true]
              have F9 := Lib.hid (show Fr No W w9 from by rw [hw]; exact F8.out.drewN nn)
              clear hw HS F8
              go_wp2_with fail
              refine (HW.out _ F9.out).mono ?_
              rintro x wz ⟨rfl, hf⟩
              have FZ := Lib.hid ((F9.out).then_no hf)
              clear hf
              go_wp2_with fail
              go_ret
              exact ⟨rfl, FZ.out⟩
            · rw [if_neg hc]
              have hcb : (firstF l != 0) = true := by rw [bne_iff_ne]; exact hc
              have hcb2 : (firstF l == 0) = false := by rw [beq_eq_false_iff_ne]; exact hc
              obtain rfl := HC2.out
              clear HC2 hc
              obtain ⟨c, hcc⟩ : ∃ c, c = firstF l := ⟨_, rfl⟩
              rw [← hcc] at hcb hcb2 ⊢
              clear hcc
              simp only
              go_wp2_with fail
              refine (HW.out _ F7.out).mono ?_
              rintro x wz ⟨rfl, hf⟩
              have FZ := Lib.hid ((F7.out).then_no hf)
              clear hf
              go_wp2_with fail
              go_ret
              exact ⟨rfl, FZ.out⟩
theorem walk_EventAll (W : World) (hg : EtAt W) (v0 : Value) (x0 : Str) (h0 : RStr W (Ahead W.heap.size) [v0] x0) (v1 : Value) (x1 : List EvX) (h1 : RSl 5 REX W (Ahead W.heap.size) [v1] x1) : Calls Tryd.prog 5 #[v0, v1] W fun e w' => e = .returned (.bool true) ∧ Fr No W w' := by
  obtain ⟨h, -⟩ := h0
  injection h with h _
  subst h
  exact alls_any x0 v1 (x1.map toE) W (rsl_map h1) hg
end Ev
end Go.Proofs.YtohjnbkehcdoaaaDoor
