/- Few of the rights' laws, from one of its loops on. Printed by gen_few.py. -/
import Derived.Test.YtompphakagoaeaaFqU
import Derived.Deep.RegionHeld3
namespace Go.Proofs.Ytompphakagoaeaa
open Go.RowKit
set_option linter.unusedVariables false
set_option linter.unusedSimpArgs false
namespace Conf
set_option maxRecDepth 100000 in
set_option maxHeartbeats 2000000 in
theorem few_G (c0 : Array Value) (x : C) (w W : World) (S : Nat → Prop) (hS : ∀ k, S k → k < w.heap.size) (h : RConf w S c0.toList x) (bc br bo : Nat) (v1 : Value) (y1 : List Con) (hy1 : RSq 10 QCon W (Sf bo W) [v1] y1)
    (hst : FewSt w W bc br bo c0 #[v1, nil, nil, nil, zs, zs, zs, zs, zs, zs, zs, zs, zs, zs])
    (u4 u5 u6 u7 u8 u9 u10 u11 u12 u13 u14 u15 u16 u17 u18 u19 u20 u21 u22 u23 u24 u25 u26 u27 u28 u29 u30 u31 u32 u33 u34 u35 u36 u37 u38 u39 u40 u41 u42 u43 u44 u45 u46 u47 u48 u49 u50 u51 u52 u53 u54 u55 u56 u57 u58 u59 u60 u61 u62 u63 u64 u65 u66 u67 u68 u69 u70 u71 u72 u73 u74 u75 u76 u77 u78 u79 u80 u81 u82 u83 u84 u85 u86 u87 u88 u89 u90 u91 u92 u93 u94 u95 u96 u97 u98 u99 u100 u101 u102 u103 u104 u105 u106 u107 u108 u109 u110 u111 u112 u113 u114 u115 u116 u117 u118 u119 u120 u121 u122 u123 u124 u125 u126 u127 u128 u129 u130 u131 u132 u133 u134 u135 u136 u137 u138 u139 u140 u141 u142 u143 u144 u145 u146 u147 u148 u149 u150 u151 u152 u153 u154 u155 u156 u157 u158 u159 u160 u161 u162 u163 u164 u165 u166 u167 u168 u169 u170 u171 u172 u173 u174 u175 u176 u177 u178 u179 u180 u181 u182 u183 u184 u185 u186 u187 u188 u189 u190 : Value) :
    Code.wp Try.prog (sB (sB (sB (bodyOf Try.f6)))) (bodyPost Try.prog Try.f6 (FewPost w)) { tmps := #[.agg c0, .pointer (some ⟨bc, 0, none⟩), .pointer (some ⟨br, 0, none⟩), .pointer (some ⟨bo, 0, none⟩), u4, u5, u6, u7, u8, u9, u10, u11, u12, u13, u14, u15, u16, u17, u18, u19, u20, u21, u22, u23, u24, u25, u26, u27, u28, u29, u30, u31, u32, u33, u34, u35, u36, u37, u38, u39, u40, u41, u42, u43, u44, u45, u46, u47, u48, u49, u50, u51, u52, u53, u54, u55, u56, u57, u58, u59, u60, u61, u62, u63, u64, u65, u66, u67, u68, u69, u70, u71, u72, u73, u74, u75, u76, u77, u78, u79, u80, u81, u82, u83, u84, u85, u86, u87, u88, u89, u90, u91, u92, u93, u94, u95, u96, u97, u98, u99, u100, u101, u102, u103, u104, u105, u106, u107, u108, u109, u110, u111, u112, u113, u114, u115, u116, u117, u118, u119, u120, u121, u122, u123, u124, u125, u126, u127, u128, u129, u130, u131, u132, u133, u134, u135, u136, u137, u138, u139, u140, u141, u142, u143, u144, u145, u146, u147, u148, u149, u150, u151, u152, u153, u154, u155, u156, u157, u158, u159, u160, u161, u162, u163, u164, u165, u166, u167, u168, u169, u170, u171, u172, u173, u174, u175, u176, u177, u178, u179, u180, u181, u182, u183, u184, u185, u186, u187, u188, u189, u190], defers := [] } W := by
  have Hx := Lib.hid h
  obtain ⟨xC, xG, xU, xA, xB⟩ := x
  obtain ⟨vC, vG, vU, vA, bs, hc0, hC, hG, hU, hA, hB⟩ := conf_open h
  obtain ⟨AX, kX, rfl, hX1, hX2⟩ := hG.slice
  have e0 : c0[1]? = some (.slice AX xG.length kX) := by rw [hc0]; rfl
  have HX := Lib.hid hG
  have E0 := Lib.hid e0
  have ST := Lib.hid hst
  have hbo := hst.lt
  have hbc : bc < bo := by have := hst.hr; have := hst.ho; omega
  simp only at hX1
  clear hC hG hU hA hB h hc0 e0 hst
  show Code.wp Try.prog (Code.seq _ _) _ _ _
  go_wp2
  go_loopw [5] (fun i wr => ∃ (k m : Nat) (v : Value) (l : List (List Value)), i = .int .i64 k ∧ k ≤ 8 ∧ m ≤ k ∧ Hid (l.length = m) ∧ Hid (LoopAt W wr bo 53 2 QGrp v l) ∧ Hid (Blk wr bo 28 #[v1, v, nil, nil, zs, zs, zs, zs, zs, zs, zs, zs, zs, zs])) (fun i _ => 8 - (intOf i).toNat)
  case atStart => exact ⟨0, 0, _, [], rfl, by omega, by omega, rfl, LoopAt.start _ _ _ _, ST.out.o⟩
  case round =>
    rename_i Q' K aK
    have HK := Lib.hid aK
    clear aK
    obtain ⟨k, m, v, l, rfl, hk, hm, Hm, HL, HO⟩ := hrel
    obtain ⟨A1, c1, hu⟩ := own_form HL.out.own
    subst hu
    have bc1 := ST.out.c.fr HL.out.fr (fun e => by have : bc = bo := e; omega)
    have t0 := bc1.cell 1
    rw [E0.out] at t0
    have q0 := HO.out.cell 1
    have q1 := HO.out.frozen 1
    simp at q0
    have hlc := bc1.lt
    clear bc1
    by_cases hlt : k < xG.length ∧ k < 8
    · obtain ⟨hlt, hlt2⟩ := hlt
      have hf : Fr No w wr := (ST.out.next HL.out.fr HO.out).fr
      obtain ⟨ad, ecs, rfl, hs, hecs, hcell, hr⟩ := RSl.at_ HX.out hlt
      obtain ⟨sa, vp, ha, hp, rfl⟩ := grp_open hr
      have hc : ∀ j, j < 2 → wr.cell? ((ad.add (k * 2)).add j) = _ := fun j hj => (hf.cell (by rw [block_add, block_add]; exact hS _ hs) (fun h => h)).trans (hcell j hj)
      have c0' : wr.cell? (ad.add (k * 2)) = some (.string ⟨sa.toArray⟩) := by have := hc 0 (by omega); rw [add_zero] at this; exact this
      have c1' : wr.cell? ⟨(ad.add (k * 2)).block, (ad.add (k * 2)).off + 1, none⟩ = some (vp) := hc 1 (by omega)
      have hnb : ¬ Of (.slice A1 l.length c1) bo := fun h => by have := (HL.out.new _ h).1; omega
      have Hnb := Lib.hid hnb
      have Hnc := Lib.hid (show ¬ Of (.slice A1 l.length c1) bc from fun h => by have := (HL.out.new _ h).1; omega)
      have hne1 : bc ≠ bo := by omega
      have hne2 : (ad.add (k * 2)).block ≠ bo := by have := hS _ hs; have := ST.out.hc; rw [block_add]; omega
      have hla : (ad.add (k * 2)).block < wr.heap.size := by have := hS _ hs; have := hf.size; rw [block_add]; omega
      have hlo := HO.out.lt
      have hne3 : bo ≠ bc := by omega
      have hne4 : bo ≠ (ad.add (k * 2)).block := Ne.symm hne2
      have Hna := Lib.hid (show ¬ Of (.slice A1 l.length c1) (ad.add (k * 2)).block from fun h => by have := (HL.out.new _ h).1; have := hS _ hs; have := ST.out.hc; rw [block_add] at *; omega)
      have hll : l.length ≤ 12 := by have := Hm.out; omega
      have Hs := Lib.hid hs
      have Hf := Lib.hid hf
      obtain ⟨xp, hxp⟩ : ∃ xp, xG[k].2 = xp := ⟨_, rfl⟩
      rw [hxp] at hp
      obtain ⟨AP, cP, rfl, hp1, hp2⟩ := hp.slice
      have HP := Lib.hid hp
      clear hc hcell hr hf hs hecs hnb hxp hp
      go_wp2_with (go_at_call 7; refine (cut40_any _ _).mono ?_; rintro e w' ⟨rfl, rfl⟩)
      obtain ⟨bg, hbg⟩ : ∃ bg, wr.heap.size = bg := ⟨_, rfl⟩
      have hB4 := Blk.new wr 53 #[.string ⟨(cutS sa).toArray⟩, nil]
      have hF4 := (Fr.refl No wr).alloc (.cells #[.string ⟨(cutS sa).toArray⟩, nil] 53)
      have hs4 := size_alloc wr (.cells #[.string ⟨(cutS sa).toArray⟩, nil] 53)
      rw [hbg] at hB4 hs4 hla hlo hlc ⊢
      generalize wr.alloc (.cells #[.string ⟨(cutS sa).toArray⟩, nil] 53) = W4 at hB4 hF4 hs4 ⊢
      have B4 := Lib.hid hB4
      have F4 := Lib.hid hF4
      have Hbg := Lib.hid hbg
      clear hB4 hF4 hbg
      obtain ⟨wo, rfl⟩ : ∃ wo, wo = wr := ⟨_, rfl⟩
      go_loopw [7] (fun i wr => ∃ (n m2 : Nat) (v2 : Value) (l2 : List (List Value)), i = .int .i64 n ∧ n ≤ 8 ∧ m2 ≤ n ∧ Hid (l2.length = m2) ∧ Hid (LoopAt W4 wr bg 9 1 RS40 v2 l2) ∧ Hid (Blk wr bg 53 #[.string ⟨(cutS sa).toArray⟩, v2])) (fun i _ => 8 - (intOf i).toNat)
      case atStart => exact ⟨0, 0, _, [], rfl, by omega, by omega, rfl, LoopAt.start _ _ _ _, B4.out⟩
      case round =>
        obtain ⟨n, m2, v2, l2, rfl, hn, hm2, Hm2, HL2, HO2⟩ := hrel
        obtain ⟨A2, c2, hu⟩ := own_form HL2.out.own
        subst hu
        have h12 : Fr No wo wr := F4.out.trans HL2.out.fr fun b hb hl => by have : b = bg := hb; have := Hbg.out; omega
        have t0' := (h12.cell (p := ⟨bc, 1, none⟩) (by have := Hbg.out; show bc < _; omega) (fun h => h)).trans t0
        have c0'' := (h12.cell (p := ad.add (k * 2)) (by have := Hbg.out; omega) (fun h => h)).trans c0'
        have c1'' := (h12.cell (p := ⟨(ad.add (k * 2)).block, (ad.add (k * 2)).off + 1, none⟩) (by have := Hbg.out; show (ad.add (k * 2)).block < _; omega) (fun h => h)).trans c1'
        have g0 := HO2.out.cell 0
        have g1 := HO2.out.cell 1
        have gf := HO2.out.frozen 1
        simp at g0 g1
        have hsz := h12.size
        rw [Hbg.out] at hsz
        have H12 := Lib.hid h12
        clear h12
        by_cases hl2 : n < xp.length ∧ n < 8
        · obtain ⟨hl2, hl3⟩ := hl2
          obtain ⟨ap, ecs, rfl, hs, hecs, hcell, hr, hr2⟩ := RSl.at_ HP.out hl2
          have hcell0 := hcell 0 (by omega)
          rw [hr, add_zero, Nat.mul_one] at hcell0
          have hpp : wo.cell? (ap.add n) = some (.string ⟨xp[n].toArray⟩) := (Hf.out.cell (by rw [block_add]; exact hS _ hs) (fun h => h)).trans hcell0
          have hpl : (ap.add n).block < bg := by rw [block_add]; have := hS _ hs; have := Hf.out.size; have := Hbg.out; omega
          have c2'' := (H12.out.cell (p := ap.add n) (by have := Hbg.out; omega) (fun h => h)).trans hpp
          have Hr2 := Lib.hid hr2
          clear hs hecs hcell hr hr2 hcell0 hpp t0 c0' c1' q0 q1
          have hne5 : bc ≠ bg := by omega
          have hne6 : bg ≠ bc := by omega
          have hne7 : (ad.add (k * 2)).block ≠ bg := by omega
          have hne8 : bg ≠ (ad.add (k * 2)).block := by omega
          have hne9 : (ap.add n).block ≠ bg := by omega
          have hneA : bg ≠ (ap.add n).block := by omega
          have hlw := HO2.out.lt
          have hl1 : bc < wr.heap.size := by omega
          have hl2 : (ad.add (k * 2)).block < wr.heap.size := by omega
          have hl4 : (ap.add n).block < wr.heap.size := by omega
          have Nof := Lib.hid (show ∀ b, b ≤ bg → ¬ Of (.slice A2 l2.length c2) b from fun b hb h => by have := (HL2.out.new _ h).1; omega)
          have hll2 : l2.length ≤ 12 := by have := Hm2.out; omega
          go_wp2
          refine wp_region_noPanic ?_
          refine wp_region_held_drew (S := (fun w' => w'.cell? ⟨bc, 1, none⟩ = some (.slice (some ad) xG.length kX) ∧ w'.cell? ⟨(ad.add (k * 2)).block, (ad.add (k * 2)).off + 1, none⟩ = some (.slice (some ap) xp.length cP) ∧ w'.cell? (ap.add n) = some (.string ⟨xp[n].toArray⟩))) (by kernel_rfl) ?_ (fun hHeld => ?_)
          · ((try dsimp only); (go_keep))
          refine wpAnyH_take (i := 0) (v := ?_) rfl (by kernel_rfl) (by kernel_rfl) (by kernel_rfl) (fun _ _ _ h => h) (Or.inl ⟨by rfl, ?_⟩) (by assumption) ?_
          rotate_left
          · (intro w hSw; (try dsimp only at hSw); (try simp only [List.getElem_toArray, List.getElem_cons_succ, List.getElem_cons_zero]); go_simp; all_goals with_reducible rfl)
          (try simp only [Act.put, List.setIfInBounds_toArray, List.set_cons_zero, List.set_cons_succ])
          refine wpAnyH_take (i := 2) (v := ?_) rfl (by kernel_rfl) (by kernel_rfl) (by kernel_rfl) (fun _ _ _ h => h) (Or.inl ⟨by rfl, ?_⟩) (by assumption) ?_
          rotate_left
          · (intro w hSw; (try dsimp only at hSw); (try simp only [List.getElem_toArray, List.getElem_cons_succ, List.getElem_cons_zero]); go_simp; all_goals with_reducible rfl)
          (try simp only [Act.put, List.setIfInBounds_toArray, List.set_cons_zero, List.set_cons_succ])
          refine wpAnyH_take (i := 3) (v := ?_) rfl (by kernel_rfl) (by kernel_rfl) (by kernel_rfl) (fun _ _ _ h => h) (Or.inl ⟨by rfl, ?_⟩) (by assumption) ?_
          rotate_left
          · (intro w hSw; (try dsimp only at hSw); (try simp only [List.getElem_toArray, List.getElem_cons_succ, List.getElem_cons_zero]); go_simp; all_goals with_reducible rfl)
          (try simp only [Act.put, List.setIfInBounds_toArray, List.set_cons_zero, List.set_cons_succ])
          refine wpAnyH_take (i := 4) (v := ?_) rfl (by kernel_rfl) (by kernel_rfl) (by kernel_rfl) (fun _ _ _ h => h) (Or.inl ⟨by rfl, ?_⟩) (by assumption) ?_
          rotate_left
          · (intro w hSw; (try dsimp only at hSw); (try simp only [List.getElem_toArray, List.getElem_cons_succ, List.getElem_cons_zero]); go_simp; all_goals with_reducible rfl)
          (try simp only [Act.put, List.setIfInBounds_toArray, List.set_cons_zero, List.set_cons_succ])
          refine wpAnyH_take (i := 5) (v := ?_) rfl (by kernel_rfl) (by kernel_rfl) (by kernel_rfl) (fun _ _ _ h => h) (Or.inl ⟨by rfl, ?_⟩) (by assumption) ?_
          rotate_left
          · (intro w hSw; (try dsimp only at hSw); (try simp only [List.getElem_toArray, List.getElem_cons_succ, List.getElem_cons_zero]); go_simp; all_goals with_reducible rfl)
          (try simp only [Act.put, List.setIfInBounds_toArray, List.set_cons_zero, List.set_cons_succ])
          refine wpAnyH_take (i := 6) (v := ?_) rfl (by kernel_rfl) (by kernel_rfl) (by kernel_rfl) (fun _ _ _ h => h) (Or.inl ⟨by rfl, ?_⟩) (by assumption) ?_
          rotate_left
          · (intro w hSw; (try dsimp only at hSw); (try simp only [List.getElem_toArray, List.getElem_cons_succ, List.getElem_cons_zero]); go_simp; all_goals with_reducible rfl)
          (try simp only [Act.put, List.setIfInBounds_toArray, List.set_cons_zero, List.set_cons_succ])
          refine wpAnyH_take (i := 7) (v := ?_) rfl (by kernel_rfl) (by kernel_rfl) (by kernel_rfl) (fun _ _ _ h => h) (Or.inl ⟨by rfl, ?_⟩) (by assumption) ?_
          rotate_left
          · (intro w hSw; (try dsimp only at hSw); (try simp only [List.getElem_toArray, List.getElem_cons_succ, List.getElem_cons_zero]); go_simp; all_goals with_reducible rfl)
          (try simp only [Act.put, List.setIfInBounds_toArray, List.set_cons_zero, List.set_cons_succ])
          refine wpAnyH_take (i := 8) (v := ?_) rfl (by kernel_rfl) (by kernel_rfl) (by kernel_rfl) (fun _ _ _ h => h) (Or.inl ⟨by rfl, ?_⟩) (by assumption) ?_
          rotate_left
          · (intro w hSw; (try dsimp only at hSw); (try simp only [List.getElem_toArray, List.getElem_cons_succ, List.getElem_cons_zero]); go_simp; all_goals with_reducible rfl)
          (try simp only [Act.put, List.setIfInBounds_toArray, List.set_cons_zero, List.set_cons_succ])
          refine wpAnyH_take (i := 9) (v := ?_) rfl (by kernel_rfl) (by kernel_rfl) (by kernel_rfl) (fun _ _ _ h => h) (Or.inl ⟨by rfl, ?_⟩) (by assumption) ?_
          rotate_left
          · (intro w hSw; (try dsimp only at hSw); (try simp only [List.getElem_toArray, List.getElem_cons_succ, List.getElem_cons_zero]); go_simp; all_goals with_reducible rfl)
          (try simp only [Act.put, List.setIfInBounds_toArray, List.set_cons_zero, List.set_cons_succ])
          refine wpAnyH_take (i := 10) (v := ?_) rfl (by kernel_rfl) (by kernel_rfl) (by kernel_rfl) (fun _ _ _ h => h) (Or.inl ⟨by rfl, ?_⟩) (by assumption) ?_
          rotate_left
          · (intro w hSw; (try dsimp only at hSw); (try simp only [List.getElem_toArray, List.getElem_cons_succ, List.getElem_cons_zero]); go_simp; all_goals with_reducible rfl)
          (try simp only [Act.put, List.setIfInBounds_toArray, List.set_cons_zero, List.set_cons_succ])
          refine wpAnyH_ready (rs := [1, 11]) (by kernel_rfl) (by simp) ?_
          refine AllReadyH.cons (o := ?_) ?_ (fun K hK => ?_) ?_
          rotate_left
          · (simp only [List.getElem?_toArray, List.getElem?_cons_succ, List.getElem?_cons_zero]; rfl)
          · skip
            go_simp
            refine hK.out _ _ ?_ (fun hNew => ?_)
            · ((try dsimp only); (go_keep))
            revert hNew
            clear hHeld hK K
            intro hHeld
            (try simp only [Act.put, List.setIfInBounds_toArray, List.set_cons_zero, List.set_cons_succ])
            refine wpAnyH_ready (rs := [11]) (by kernel_rfl) (by simp) ?_
            refine AllReadyH.cons (o := ?_) ?_ (fun K hK => ?_) ?_
            rotate_left
            · (simp only [List.getElem?_toArray, List.getElem?_cons_succ, List.getElem?_cons_zero]; rfl)
            · skip
              go_simp
              (first | (go_at_call 7; refine (cut40_any _ _).mono ?_; rintro e w' ⟨rfl, rfl⟩) | (refine step_push rfl (.tmp 85) (.tmp 96) 48 rfl 9 zs 1 16 Try.underlying48 infoStr rfl (by decide) (.slice A2 l2.length c2) _ _ (by simp [Act.eval, Act.put]) HL2.out.own #[.string ⟨(cutS xp[n]).toArray⟩] (by simp [Act.eval, Act.put]) rfl (by intro u hu; simp at hu; rcases hu with rfl; rfl) (by omega) (by unfold maxLen; omega) ?_; intro g4 cap4 w4 p1 p2 p3; have b2 := HO2.out.fr p2 (Nof.out _ (Nat.le_refl _)); have r0 := b2.cell 1; have r1 := b2.frozen 1; simp at r0; have r2 := (p2.cell (p := ⟨bc, 1, none⟩) hl1 (Nof.out _ (by show bc ≤ _; omega))).trans t0'; have ra0 := (p2.cell (p := ap.add n) hl4 (Nof.out _ (by omega))).trans c2''; have ra1 := (p2.cell (p := ⟨(ad.add (k * 2)).block, (ad.add (k * 2)).off + 1, none⟩) hl2 (Nof.out _ (by show (ad.add (k * 2)).block ≤ _; omega))).trans c1''; have P1 := Lib.hid p1; have P2 := Lib.hid p2; have P3 := Lib.hid p3; have B2 := Lib.hid b2; clear p1 p2 p3 b2) | (refine step_pushD rfl (.tmp 85) (.tmp 96) 48 rfl 9 zs 1 16 Try.underlying48 infoStr rfl (by decide) (.slice A2 l2.length c2) _ _ (by simp [Act.eval, Act.put]) HL2.out.own #[.string ⟨(cutS xp[n]).toArray⟩] (by simp [Act.eval, Act.put]) rfl (by intro u hu; simp at hu; rcases hu with rfl; rfl) (by omega) (by unfold maxLen; omega) ?_; intro g4 cap4 w4 p1 p2 p3; have b2 := HO2.out.fr p2 (Nof.out _ (Nat.le_refl _)); have r0 := b2.cell 1; have r1 := b2.frozen 1; simp at r0; have r2 := (p2.cell (p := ⟨bc, 1, none⟩) hl1 (Nof.out _ (by show bc ≤ _; omega))).trans t0'; have ra0 := (p2.cell (p := ap.add n) hl4 (Nof.out _ (by omega))).trans c2''; have ra1 := (p2.cell (p := ⟨(ad.add (k * 2)).block, (ad.add (k * 2)).off + 1, none⟩) hl2 (Nof.out _ (by show (ad.add (k * 2)).block ≤ _; omega))).trans c1''; have P1 := Lib.hid p1; have P2 := Lib.hid p2; have P3 := Lib.hid p3; have B2 := Lib.hid b2; clear p1 p2 p3 b2))
              refine hK.out _ _ ?_ (fun hNew => ?_)
              · ((try dsimp only); (go_keep))
              revert hNew
              clear hHeld hK K
              intro hHeld
              (try simp only [Act.put, List.setIfInBounds_toArray, List.set_cons_zero, List.set_cons_succ])
              refine wpAnyH_ready (rs := [12]) (by kernel_rfl) (by simp) ?_
              refine AllReadyH.cons (o := ?_) ?_ (fun K hK => ?_) ?_
              rotate_left
              · (simp only [List.getElem?_toArray, List.getElem?_cons_succ, List.getElem?_cons_zero]; rfl)
              · skip
                go_simp
                refine hK.out _ _ ?_ (fun hNew => ?_)
                · ((try dsimp only); (go_keep))
                revert hNew
                clear hHeld hK K
                intro hHeld
                (try simp only [Act.put, List.setIfInBounds_toArray, List.set_cons_zero, List.set_cons_succ])
                refine wpAnyH_ready (rs := [13]) (by kernel_rfl) (by simp) ?_
                refine AllReadyH.cons (o := ?_) ?_ (fun K hK => ?_) ?_
                rotate_left
                · (simp only [List.getElem?_toArray, List.getElem?_cons_succ, List.getElem?_cons_zero]; rfl)
                · skip
                  (first | (go_at_call 7; refine (cut40_any _ _).mono ?_; rintro e w' ⟨rfl, rfl⟩) | (refine step_push rfl (.tmp 85) (.tmp 96) 48 rfl 9 zs 1 16 Try.underlying48 infoStr rfl (by decide) (.slice A2 l2.length c2) _ _ (by simp [Act.eval, Act.put]) HL2.out.own #[.string ⟨(cutS xp[n]).toArray⟩] (by simp [Act.eval, Act.put]) rfl (by intro u hu; simp at hu; rcases hu with rfl; rfl) (by omega) (by unfold maxLen; omega) ?_; intro g4 cap4 w4 p1 p2 p3; have b2 := HO2.out.fr p2 (Nof.out _ (Nat.le_refl _)); have r0 := b2.cell 1; have r1 := b2.frozen 1; simp at r0; have r2 := (p2.cell (p := ⟨bc, 1, none⟩) hl1 (Nof.out _ (by show bc ≤ _; omega))).trans t0'; have ra0 := (p2.cell (p := ap.add n) hl4 (Nof.out _ (by omega))).trans c2''; have ra1 := (p2.cell (p := ⟨(ad.add (k * 2)).block, (ad.add (k * 2)).off + 1, none⟩) hl2 (Nof.out _ (by show (ad.add (k * 2)).block ≤ _; omega))).trans c1''; have P1 := Lib.hid p1; have P2 := Lib.hid p2; have P3 := Lib.hid p3; have B2 := Lib.hid b2; clear p1 p2 p3 b2) | (refine step_pushD rfl (.tmp 85) (.tmp 96) 48 rfl 9 zs 1 16 Try.underlying48 infoStr rfl (by decide) (.slice A2 l2.length c2) _ _ (by simp [Act.eval, Act.put]) HL2.out.own #[.string ⟨(cutS xp[n]).toArray⟩] (by simp [Act.eval, Act.put]) rfl (by intro u hu; simp at hu; rcases hu with rfl; rfl) (by omega) (by unfold maxLen; omega) ?_; intro g4 cap4 w4 p1 p2 p3; have b2 := HO2.out.fr p2 (Nof.out _ (Nat.le_refl _)); have r0 := b2.cell 1; have r1 := b2.frozen 1; simp at r0; have r2 := (p2.cell (p := ⟨bc, 1, none⟩) hl1 (Nof.out _ (by show bc ≤ _; omega))).trans t0'; have ra0 := (p2.cell (p := ap.add n) hl4 (Nof.out _ (by omega))).trans c2''; have ra1 := (p2.cell (p := ⟨(ad.add (k * 2)).block, (ad.add (k * 2)).off + 1, none⟩) hl2 (Nof.out _ (by show (ad.add (k * 2)).block ≤ _; omega))).trans c1''; have P1 := Lib.hid p1; have P2 := Lib.hid p2; have P3 := Lib.hid p3; have B2 := Lib.hid b2; clear p1 p2 p3 b2))
                  refine hK.out _ _ ?_ (fun hNew => ?_)
                  · ((try dsimp only); (go_keep))
                  revert hNew
                  clear hHeld hK K
                  intro hHeld
                  (try simp only [Act.put, List.setIfInBounds_toArray, List.set_cons_zero, List.set_cons_succ])
                  refine wpAnyH_take (i := 14) (v := ?_) rfl (by kernel_rfl) (by kernel_rfl) (by kernel_rfl) (fun _ _ _ h => h) (Or.inl ⟨by rfl, ?_⟩) (by assumption) ?_
                  rotate_left
                  · (intro w hSw; (try dsimp only at hSw); (try simp only [List.getElem_toArray, List.getElem_cons_succ, List.getElem_cons_zero]); go_simp; all_goals with_reducible rfl)
                  (try simp only [Act.put, List.setIfInBounds_toArray, List.set_cons_zero, List.set_cons_succ])
                  refine wpAnyH_ready (rs := [15]) (by kernel_rfl) (by simp) ?_
                  refine AllReadyH.cons (o := ?_) ?_ (fun K hK => ?_) ?_
                  rotate_left
                  · (simp only [List.getElem?_toArray, List.getElem?_cons_succ, List.getElem?_cons_zero]; rfl)
                  · skip
                    go_simp
                    refine hK.out _ _ ?_ (fun hNew => ?_)
                    · ((try dsimp only); (go_keep))
                    revert hNew
                    clear hHeld hK K
                    intro hHeld
                    (try simp only [Act.put, List.setIfInBounds_toArray, List.set_cons_zero, List.set_cons_succ])
                    refine wpAnyH_done (by kernel_rfl) ?_ _
                    refine NoPanic.normal ?_
                    go_wp2
                    go_roundw
                    case rel => exact ⟨n + 1, m2 + 1, _, l2 ++ [[.string ⟨(cutS xp[n]).toArray⟩]], by go_num, by omega, by omega, (show _ = _ from by have := Hm2.out; simp [this]), HL2.out.push RS40.stable (by omega) (by first | exact Fr.refl _ _ | exact (Fr.refl _ _).drew) (S2 := No) (fun b h => h.elim) rfl ⟨cutS xp[n], rfl, (cut40_le _)⟩ P1.out P2.out (fun g hg => by have := P3.out; injection hg with e; subst e; exact this) ((Fr.refl (Just bg) w4).setCell (p := ⟨bg, 1, none⟩) (.inl rfl) _), (show Blk _ _ _ _ from B2.out.put 1 _)⟩
                    case measure => simp [intOf]; omega
                  exact AllReadyH.nil
                exact AllReadyH.nil
              exact AllReadyH.nil
            exact AllReadyH.nil
          refine AllReadyH.cons (o := ?_) ?_ (fun K hK => ?_) ?_
          rotate_left
          · (simp only [List.getElem?_toArray, List.getElem?_cons_succ, List.getElem?_cons_zero]; rfl)
          · skip
            go_simp
            (first | (go_at_call 7; refine (cut40_any _ _).mono ?_; rintro e w' ⟨rfl, rfl⟩) | (refine step_push rfl (.tmp 85) (.tmp 96) 48 rfl 9 zs 1 16 Try.underlying48 infoStr rfl (by decide) (.slice A2 l2.length c2) _ _ (by simp [Act.eval, Act.put]) HL2.out.own #[.string ⟨(cutS xp[n]).toArray⟩] (by simp [Act.eval, Act.put]) rfl (by intro u hu; simp at hu; rcases hu with rfl; rfl) (by omega) (by unfold maxLen; omega) ?_; intro g4 cap4 w4 p1 p2 p3; have b2 := HO2.out.fr p2 (Nof.out _ (Nat.le_refl _)); have r0 := b2.cell 1; have r1 := b2.frozen 1; simp at r0; have r2 := (p2.cell (p := ⟨bc, 1, none⟩) hl1 (Nof.out _ (by show bc ≤ _; omega))).trans t0'; have ra0 := (p2.cell (p := ap.add n) hl4 (Nof.out _ (by omega))).trans c2''; have ra1 := (p2.cell (p := ⟨(ad.add (k * 2)).block, (ad.add (k * 2)).off + 1, none⟩) hl2 (Nof.out _ (by show (ad.add (k * 2)).block ≤ _; omega))).trans c1''; have P1 := Lib.hid p1; have P2 := Lib.hid p2; have P3 := Lib.hid p3; have B2 := Lib.hid b2; clear p1 p2 p3 b2) | (refine step_pushD rfl (.tmp 85) (.tmp 96) 48 rfl 9 zs 1 16 Try.underlying48 infoStr rfl (by decide) (.slice A2 l2.length c2) _ _ (by simp [Act.eval, Act.put]) HL2.out.own #[.string ⟨(cutS xp[n]).toArray⟩] (by simp [Act.eval, Act.put]) rfl (by intro u hu; simp at hu; rcases hu with rfl; rfl) (by omega) (by unfold maxLen; omega) ?_; intro g4 cap4 w4 p1 p2 p3; have b2 := HO2.out.fr p2 (Nof.out _ (Nat.le_refl _)); have r0 := b2.cell 1; have r1 := b2.frozen 1; simp at r0; have r2 := (p2.cell (p := ⟨bc, 1, none⟩) hl1 (Nof.out _ (by show bc ≤ _; omega))).trans t0'; have ra0 := (p2.cell (p := ap.add n) hl4 (Nof.out _ (by omega))).trans c2''; have ra1 := (p2.cell (p := ⟨(ad.add (k * 2)).block, (ad.add (k * 2)).off + 1, none⟩) hl2 (Nof.out _ (by show (ad.add (k * 2)).block ≤ _; omega))).trans c1''; have P1 := Lib.hid p1; have P2 := Lib.hid p2; have P3 := Lib.hid p3; have B2 := Lib.hid b2; clear p1 p2 p3 b2))
            refine hK.out _ _ ?_ (fun hNew => ?_)
            · ((try dsimp only); (go_keep))
            revert hNew
            clear hHeld hK K
            intro hHeld
            (try simp only [Act.put, List.setIfInBounds_toArray, List.set_cons_zero, List.set_cons_succ])
            refine wpAnyH_ready (rs := [1, 12]) (by kernel_rfl) (by simp) ?_
            refine AllReadyH.cons (o := ?_) ?_ (fun K hK => ?_) ?_
            rotate_left
            · (simp only [List.getElem?_toArray, List.getElem?_cons_succ, List.getElem?_cons_zero]; rfl)
            · skip
              go_simp
              refine hK.out _ _ ?_ (fun hNew => ?_)
              · ((try dsimp only); (go_keep))
              revert hNew
              clear hHeld hK K
              intro hHeld
              (try simp only [Act.put, List.setIfInBounds_toArray, List.set_cons_zero, List.set_cons_succ])
              refine wpAnyH_ready (rs := [12]) (by kernel_rfl) (by simp) ?_
              refine AllReadyH.cons (o := ?_) ?_ (fun K hK => ?_) ?_
              rotate_left
              · (simp only [List.getElem?_toArray, List.getElem?_cons_succ, List.getElem?_cons_zero]; rfl)
              · skip
                go_simp
                refine hK.out _ _ ?_ (fun hNew => ?_)
                · ((try dsimp only); (go_keep))
                revert hNew
                clear hHeld hK K
                intro hHeld
                (try simp only [Act.put, List.setIfInBounds_toArray, List.set_cons_zero, List.set_cons_succ])
                refine wpAnyH_ready (rs := [13]) (by kernel_rfl) (by simp) ?_
                refine AllReadyH.cons (o := ?_) ?_ (fun K hK => ?_) ?_
                rotate_left
                · (simp only [List.getElem?_toArray, List.getElem?_cons_succ, List.getElem?_cons_zero]; rfl)
                · skip
                  (first | (go_at_call 7; refine (cut40_any _ _).mono ?_; rintro e w' ⟨rfl, rfl⟩) | (refine step_push rfl (.tmp 85) (.tmp 96) 48 rfl 9 zs 1 16 Try.underlying48 infoStr rfl (by decide) (.slice A2 l2.length c2) _ _ (by simp [Act.eval, Act.put]) HL2.out.own #[.string ⟨(cutS xp[n]).toArray⟩] (by simp [Act.eval, Act.put]) rfl (by intro u hu; simp at hu; rcases hu with rfl; rfl) (by omega) (by unfold maxLen; omega) ?_; intro g4 cap4 w4 p1 p2 p3; have b2 := HO2.out.fr p2 (Nof.out _ (Nat.le_refl _)); have r0 := b2.cell 1; have r1 := b2.frozen 1; simp at r0; have r2 := (p2.cell (p := ⟨bc, 1, none⟩) hl1 (Nof.out _ (by show bc ≤ _; omega))).trans t0'; have ra0 := (p2.cell (p := ap.add n) hl4 (Nof.out _ (by omega))).trans c2''; have ra1 := (p2.cell (p := ⟨(ad.add (k * 2)).block, (ad.add (k * 2)).off + 1, none⟩) hl2 (Nof.out _ (by show (ad.add (k * 2)).block ≤ _; omega))).trans c1''; have P1 := Lib.hid p1; have P2 := Lib.hid p2; have P3 := Lib.hid p3; have B2 := Lib.hid b2; clear p1 p2 p3 b2) | (refine step_pushD rfl (.tmp 85) (.tmp 96) 48 rfl 9 zs 1 16 Try.underlying48 infoStr rfl (by decide) (.slice A2 l2.length c2) _ _ (by simp [Act.eval, Act.put]) HL2.out.own #[.string ⟨(cutS xp[n]).toArray⟩] (by simp [Act.eval, Act.put]) rfl (by intro u hu; simp at hu; rcases hu with rfl; rfl) (by omega) (by unfold maxLen; omega) ?_; intro g4 cap4 w4 p1 p2 p3; have b2 := HO2.out.fr p2 (Nof.out _ (Nat.le_refl _)); have r0 := b2.cell 1; have r1 := b2.frozen 1; simp at r0; have r2 := (p2.cell (p := ⟨bc, 1, none⟩) hl1 (Nof.out _ (by show bc ≤ _; omega))).trans t0'; have ra0 := (p2.cell (p := ap.add n) hl4 (Nof.out _ (by omega))).trans c2''; have ra1 := (p2.cell (p := ⟨(ad.add (k * 2)).block, (ad.add (k * 2)).off + 1, none⟩) hl2 (Nof.out _ (by show (ad.add (k * 2)).block ≤ _; omega))).trans c1''; have P1 := Lib.hid p1; have P2 := Lib.hid p2; have P3 := Lib.hid p3; have B2 := Lib.hid b2; clear p1 p2 p3 b2))
                  refine hK.out _ _ ?_ (fun hNew => ?_)
                  · ((try dsimp only); (go_keep))
                  revert hNew
                  clear hHeld hK K
                  intro hHeld
                  (try simp only [Act.put, List.setIfInBounds_toArray, List.set_cons_zero, List.set_cons_succ])
                  refine wpAnyH_take (i := 14) (v := ?_) rfl (by kernel_rfl) (by kernel_rfl) (by kernel_rfl) (fun _ _ _ h => h) (Or.inl ⟨by rfl, ?_⟩) (by assumption) ?_
                  rotate_left
                  · (intro w hSw; (try dsimp only at hSw); (try simp only [List.getElem_toArray, List.getElem_cons_succ, List.getElem_cons_zero]); go_simp; all_goals with_reducible rfl)
                  (try simp only [Act.put, List.setIfInBounds_toArray, List.set_cons_zero, List.set_cons_succ])
                  refine wpAnyH_ready (rs := [15]) (by kernel_rfl) (by simp) ?_
                  refine AllReadyH.cons (o := ?_) ?_ (fun K hK => ?_) ?_
                  rotate_left
                  · (simp only [List.getElem?_toArray, List.getElem?_cons_succ, List.getElem?_cons_zero]; rfl)
                  · skip
                    go_simp
                    refine hK.out _ _ ?_ (fun hNew => ?_)
                    · ((try dsimp only); (go_keep))
                    revert hNew
                    clear hHeld hK K
                    intro hHeld
                    (try simp only [Act.put, List.setIfInBounds_toArray, List.set_cons_zero, List.set_cons_succ])
                    refine wpAnyH_done (by kernel_rfl) ?_ _
                    refine NoPanic.normal ?_
                    go_wp2
                    go_roundw
                    case rel => exact ⟨n + 1, m2 + 1, _, l2 ++ [[.string ⟨(cutS xp[n]).toArray⟩]], by go_num, by omega, by omega, (show _ = _ from by have := Hm2.out; simp [this]), HL2.out.push RS40.stable (by omega) (by first | exact Fr.refl _ _ | exact (Fr.refl _ _).drew) (S2 := No) (fun b h => h.elim) rfl ⟨cutS xp[n], rfl, (cut40_le _)⟩ P1.out P2.out (fun g hg => by have := P3.out; injection hg with e; subst e; exact this) ((Fr.refl (Just bg) w4).setCell (p := ⟨bg, 1, none⟩) (.inl rfl) _), (show Blk _ _ _ _ from B2.out.put 1 _)⟩
                    case measure => simp [intOf]; omega
                  exact AllReadyH.nil
                exact AllReadyH.nil
              exact AllReadyH.nil
            refine AllReadyH.cons (o := ?_) ?_ (fun K hK => ?_) ?_
            rotate_left
            · (simp only [List.getElem?_toArray, List.getElem?_cons_succ, List.getElem?_cons_zero]; rfl)
            · skip
              go_simp
              refine hK.out _ _ ?_ (fun hNew => ?_)
              · ((try dsimp only); (go_keep))
              revert hNew
              clear hHeld hK K
              intro hHeld
              (try simp only [Act.put, List.setIfInBounds_toArray, List.set_cons_zero, List.set_cons_succ])
              refine wpAnyH_ready (rs := [1]) (by kernel_rfl) (by simp) ?_
              refine AllReadyH.cons (o := ?_) ?_ (fun K hK => ?_) ?_
              rotate_left
              · (simp only [List.getElem?_toArray, List.getElem?_cons_succ, List.getElem?_cons_zero]; rfl)
              · skip
                go_simp
                refine hK.out _ _ ?_ (fun hNew => ?_)
                · ((try dsimp only); (go_keep))
                revert hNew
                clear hHeld hK K
                intro hHeld
                (try simp only [Act.put, List.setIfInBounds_toArray, List.set_cons_zero, List.set_cons_succ])
                refine wpAnyH_ready (rs := [13]) (by kernel_rfl) (by simp) ?_
                refine AllReadyH.cons (o := ?_) ?_ (fun K hK => ?_) ?_
                rotate_left
                · (simp only [List.getElem?_toArray, List.getElem?_cons_succ, List.getElem?_cons_zero]; rfl)
                · skip
                  (first | (go_at_call 7; refine (cut40_any _ _).mono ?_; rintro e w' ⟨rfl, rfl⟩) | (refine step_push rfl (.tmp 85) (.tmp 96) 48 rfl 9 zs 1 16 Try.underlying48 infoStr rfl (by decide) (.slice A2 l2.length c2) _ _ (by simp [Act.eval, Act.put]) HL2.out.own #[.string ⟨(cutS xp[n]).toArray⟩] (by simp [Act.eval, Act.put]) rfl (by intro u hu; simp at hu; rcases hu with rfl; rfl) (by omega) (by unfold maxLen; omega) ?_; intro g4 cap4 w4 p1 p2 p3; have b2 := HO2.out.fr p2 (Nof.out _ (Nat.le_refl _)); have r0 := b2.cell 1; have r1 := b2.frozen 1; simp at r0; have r2 := (p2.cell (p := ⟨bc, 1, none⟩) hl1 (Nof.out _ (by show bc ≤ _; omega))).trans t0'; have ra0 := (p2.cell (p := ap.add n) hl4 (Nof.out _ (by omega))).trans c2''; have ra1 := (p2.cell (p := ⟨(ad.add (k * 2)).block, (ad.add (k * 2)).off + 1, none⟩) hl2 (Nof.out _ (by show (ad.add (k * 2)).block ≤ _; omega))).trans c1''; have P1 := Lib.hid p1; have P2 := Lib.hid p2; have P3 := Lib.hid p3; have B2 := Lib.hid b2; clear p1 p2 p3 b2) | (refine step_pushD rfl (.tmp 85) (.tmp 96) 48 rfl 9 zs 1 16 Try.underlying48 infoStr rfl (by decide) (.slice A2 l2.length c2) _ _ (by simp [Act.eval, Act.put]) HL2.out.own #[.string ⟨(cutS xp[n]).toArray⟩] (by simp [Act.eval, Act.put]) rfl (by intro u hu; simp at hu; rcases hu with rfl; rfl) (by omega) (by unfold maxLen; omega) ?_; intro g4 cap4 w4 p1 p2 p3; have b2 := HO2.out.fr p2 (Nof.out _ (Nat.le_refl _)); have r0 := b2.cell 1; have r1 := b2.frozen 1; simp at r0; have r2 := (p2.cell (p := ⟨bc, 1, none⟩) hl1 (Nof.out _ (by show bc ≤ _; omega))).trans t0'; have ra0 := (p2.cell (p := ap.add n) hl4 (Nof.out _ (by omega))).trans c2''; have ra1 := (p2.cell (p := ⟨(ad.add (k * 2)).block, (ad.add (k * 2)).off + 1, none⟩) hl2 (Nof.out _ (by show (ad.add (k * 2)).block ≤ _; omega))).trans c1''; have P1 := Lib.hid p1; have P2 := Lib.hid p2; have P3 := Lib.hid p3; have B2 := Lib.hid b2; clear p1 p2 p3 b2))
                  refine hK.out _ _ ?_ (fun hNew => ?_)
                  · ((try dsimp only); (go_keep))
                  revert hNew
                  clear hHeld hK K
                  intro hHeld
                  (try simp only [Act.put, List.setIfInBounds_toArray, List.set_cons_zero, List.set_cons_succ])
                  refine wpAnyH_take (i := 14) (v := ?_) rfl (by kernel_rfl) (by kernel_rfl) (by kernel_rfl) (fun _ _ _ h => h) (Or.inl ⟨by rfl, ?_⟩) (by assumption) ?_
                  rotate_left
                  · (intro w hSw; (try dsimp only at hSw); (try simp only [List.getElem_toArray, List.getElem_cons_succ, List.getElem_cons_zero]); go_simp; all_goals with_reducible rfl)
                  (try simp only [Act.put, List.setIfInBounds_toArray, List.set_cons_zero, List.set_cons_succ])
                  refine wpAnyH_ready (rs := [15]) (by kernel_rfl) (by simp) ?_
                  refine AllReadyH.cons (o := ?_) ?_ (fun K hK => ?_) ?_
                  rotate_left
                  · (simp only [List.getElem?_toArray, List.getElem?_cons_succ, List.getElem?_cons_zero]; rfl)
                  · skip
                    go_simp
                    refine hK.out _ _ ?_ (fun hNew => ?_)
                    · ((try dsimp only); (go_keep))
                    revert hNew
                    clear hHeld hK K
                    intro hHeld
                    (try simp only [Act.put, List.setIfInBounds_toArray, List.set_cons_zero, List.set_cons_succ])
                    refine wpAnyH_done (by kernel_rfl) ?_ _
                    refine NoPanic.normal ?_
                    go_wp2
                    go_roundw
                    case rel => exact ⟨n + 1, m2 + 1, _, l2 ++ [[.string ⟨(cutS xp[n]).toArray⟩]], by go_num, by omega, by omega, (show _ = _ from by have := Hm2.out; simp [this]), HL2.out.push RS40.stable (by omega) (by first | exact Fr.refl _ _ | exact (Fr.refl _ _).drew) (S2 := No) (fun b h => h.elim) rfl ⟨cutS xp[n], rfl, (cut40_le _)⟩ P1.out P2.out (fun g hg => by have := P3.out; injection hg with e; subst e; exact this) ((Fr.refl (Just bg) w4).setCell (p := ⟨bg, 1, none⟩) (.inl rfl) _), (show Blk _ _ _ _ from B2.out.put 1 _)⟩
                    case measure => simp [intOf]; omega
                  exact AllReadyH.nil
                exact AllReadyH.nil
              exact AllReadyH.nil
            exact AllReadyH.nil
          exact AllReadyH.nil
        · obtain ⟨xs, hxs⟩ := HL2.out.read RS40.stable
          have Hxs := Lib.hid hxs
          have Ho := Lib.hid (HO.out.fr H12.out (fun h => h))
          have Hown := Lib.hid (own_fr HL.out.own H12.out (fun _ _ h => h))
          have q0' := Ho.out.cell 1
          have q1' := Ho.out.frozen 1
          simp at q0'
          have hla2 := HO2.out.lt
          have hnb2 := Lib.hid (show ¬ Of (.slice A1 l.length c1) bo from Hnb.out)
          have hsz4 := Lib.hid (HL2.out.fr.size)
          clear hxs q0 q1 t0 c0' c1'
          by_cases h8 : n < xp.length
          all_goals
            try have h9 : ¬ n < 8 := fun h => hl2 ⟨h8, h⟩
            clear hl2
            go_wp2_with (refine wp_push rfl (.tmp 100) (.tmp 102) 23 rfl 53 (.agg #[zs, nil]) 2 40 Try.underlying23 infoGrp rfl (by decide) (.slice A1 l.length c1) _ _ (by simp [Act.eval, Act.put]) Hown.out #[.string ⟨(cutS sa).toArray⟩, .slice A2 l2.length c2] (by simp [Act.eval, Act.put]) rfl (by intro u hu; simp at hu; rcases hu with rfl | rfl <;> rfl) (by omega) (by unfold maxLen; omega) ?_; intro g4 cap4 w4 p1 p2 p3; have b2 := Ho.out.fr p2 hnb2.out; have r0 := b2.cell 1; have r1 := b2.frozen 1; simp at r0; have P1 := Lib.hid p1; have P2 := Lib.hid p2; have P3 := Lib.hid p3; have B2 := Lib.hid b2; clear p1 p2 p3 b2)
            go_roundw
            case rel => exact ⟨k + 1, m + 1, _, l ++ [[.string ⟨(cutS sa).toArray⟩, .slice A2 l2.length c2]], by go_num, by omega, by omega, (show _ = _ from by have := Hm.out; simp [this]), HL.out.push stable_qgrp hbo H12.out (S2 := New W4 wr) (fun b h => ⟨by have := h.1; have := Hbg.out; omega, h.2⟩) rfl (show ∃ a, QGrp wr (New W4 wr) [.string ⟨(cutS sa).toArray⟩, .slice A2 l2.length c2] a from ⟨(cutS sa, xs), by simp, ⟨rfl, (cut40_le _)⟩, Hxs.out⟩) P1.out P2.out (fun g hg => by have := P3.out; injection hg with e; subst e; exact this) ((Fr.refl (Just bo) w4).setCell (p := ⟨bo, 1, none⟩) (.inl rfl) _), (show Blk _ _ _ _ from B2.out.put 1 _)⟩
            case measure => simp [intOf]; omega
    · obtain ⟨ys, hys⟩ := HL.out.read_sf stable_qgrp hbo (by have := Hm.out; omega)
      have HY := Lib.hid hys
      clear hys
      by_cases h1 : k < xG.length
      all_goals
        try have h2 : ¬ k < 8 := fun h => hlt ⟨h1, h⟩
        clear hlt
        go_wp2
        refine HK.out _ _ ?_
        exact few_U c0 (xC, xG, xU, xA, xB) w wr S hS Hx.out bc br bo _ _ (kept_sf stable_qcon hy1 HL.out.fr) _ _ HY.out (ST.out.next HL.out.fr HO.out) _ _ _ _ _ _ _ _ _ _ _ _ _ _ _ _ _ _ _ _ _ _ _ _ _ _ _ _ _ _ _ _ _ _ _ _ _ _ _ _ _ _ _ _ _ _ _ _ _ _ _ _ _ _ _ _ _ _ _ _ _ _ _ _ _ _ _ _ _ _ _ _ _ _ _ _ _ _ _ _ _ _ _ _ _ _ _ _ _ _ _ _ _ _ _ _ _ _ _ _ _ _ _ _ _ _ _ _ _ _ _ _ _ _ _ _ _ _ _ _ _ _ _ _ _ _ _ _ _ _ _ _ _ _ _ _ _ _ _ _ _ _ _ _ _ _ _ _ _ _ _ _ _ _ _ _ _ _ _ _ _ _ _ _ _ _ _ _ _ _ _ _ _ _ _ _ _ _ _ _ _ _ _ _ _ _ _
end Conf
end Go.Proofs.Ytompphakagoaeaa
