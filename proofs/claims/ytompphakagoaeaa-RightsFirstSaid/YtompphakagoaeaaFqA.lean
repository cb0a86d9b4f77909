/- Few of the rights' laws, from one of its loops on. Printed by gen_few.py. -/
import Derived.Test.YtompphakagoaeaaFqB
import Derived.Deep.RegionHeld3
namespace Go.Proofs.Ytompphakagoaeaa
open Go.RowKit
set_option linter.unusedVariables false
set_option linter.unusedSimpArgs false
namespace Conf
set_option maxRecDepth 100000 in
set_option maxHeartbeats 2000000 in
theorem few_A (c0 : Array Value) (x : C) (w W : World) (S : Nat → Prop) (hS : ∀ k, S k → k < w.heap.size) (h : RConf w S c0.toList x) (bc br bo : Nat) (v1 : Value) (y1 : List Con) (hy1 : RSq 10 QCon W (Sf bo W) [v1] y1) (v2 : Value) (y2 : List Grp) (hy2 : RSq 2 QGrp W (Sf bo W) [v2] y2) (v3 : Value) (y3 : List Usr) (hy3 : RSq 2 QUsr W (Sf bo W) [v3] y3)
    (hst : FewSt w W bc br bo c0 #[v1, v2, v3, nil, zs, zs, zs, zs, zs, zs, zs, zs, zs, zs])
    (u4 u5 u6 u7 u8 u9 u10 u11 u12 u13 u14 u15 u16 u17 u18 u19 u20 u21 u22 u23 u24 u25 u26 u27 u28 u29 u30 u31 u32 u33 u34 u35 u36 u37 u38 u39 u40 u41 u42 u43 u44 u45 u46 u47 u48 u49 u50 u51 u52 u53 u54 u55 u56 u57 u58 u59 u60 u61 u62 u63 u64 u65 u66 u67 u68 u69 u70 u71 u72 u73 u74 u75 u76 u77 u78 u79 u80 u81 u82 u83 u84 u85 u86 u87 u88 u89 u90 u91 u92 u93 u94 u95 u96 u97 u98 u99 u100 u101 u102 u103 u104 u105 u106 u107 u108 u109 u110 u111 u112 u113 u114 u115 u116 u117 u118 u119 u120 u121 u122 u123 u124 u125 u126 u127 u128 u129 u130 u131 u132 u133 u134 u135 u136 u137 u138 u139 u140 u141 u142 u143 u144 u145 u146 u147 u148 u149 u150 u151 u152 u153 u154 u155 u156 u157 u158 u159 u160 u161 u162 u163 u164 u165 u166 u167 u168 u169 u170 u171 u172 u173 u174 u175 u176 u177 u178 u179 u180 u181 u182 u183 u184 u185 u186 u187 u188 u189 u190 : Value) :
    Code.wp Try.prog (sB (sB (sB (sB (sB (bodyOf Try.f6)))))) (bodyPost Try.prog Try.f6 (FewPost w)) { tmps := #[.agg c0, .pointer (some ⟨bc, 0, none⟩), .pointer (some ⟨br, 0, none⟩), .pointer (some ⟨bo, 0, none⟩), u4, u5, u6, u7, u8, u9, u10, u11, u12, u13, u14, u15, u16, u17, u18, u19, u20, u21, u22, u23, u24, u25, u26, u27, u28, u29, u30, u31, u32, u33, u34, u35, u36, u37, u38, u39, u40, u41, u42, u43, u44, u45, u46, u47, u48, u49, u50, u51, u52, u53, u54, u55, u56, u57, u58, u59, u60, u61, u62, u63, u64, u65, u66, u67, u68, u69, u70, u71, u72, u73, u74, u75, u76, u77, u78, u79, u80, u81, u82, u83, u84, u85, u86, u87, u88, u89, u90, u91, u92, u93, u94, u95, u96, u97, u98, u99, u100, u101, u102, u103, u104, u105, u106, u107, u108, u109, u110, u111, u112, u113, u114, u115, u116, u117, u118, u119, u120, u121, u122, u123, u124, u125, u126, u127, u128, u129, u130, u131, u132, u133, u134, u135, u136, u137, u138, u139, u140, u141, u142, u143, u144, u145, u146, u147, u148, u149, u150, u151, u152, u153, u154, u155, u156, u157, u158, u159, u160, u161, u162, u163, u164, u165, u166, u167, u168, u169, u170, u171, u172, u173, u174, u175, u176, u177, u178, u179, u180, u181, u182, u183, u184, u185, u186, u187, u188, u189, u190], defers := [] } W := by
  have Hx := Lib.hid h
  obtain ⟨xC, xG, xU, xA, xB⟩ := x
  obtain ⟨vC, vG, vU, vA, bs, hc0, hC, hG, hU, hA, hB⟩ := conf_open h
  obtain ⟨AX, kX, rfl, hX1, hX2⟩ := hA.slice
  have e0 : c0[3]? = some (.slice AX xA.length kX) := by rw [hc0]; rfl
  have HX := Lib.hid hA
  have E0 := Lib.hid e0
  have ST := Lib.hid hst
  have hbo := hst.lt
  have hbc : bc < bo := by have := hst.hr; have := hst.ho; omega
  simp only at hX1
  clear hC hG hU hA hB h hc0 e0 hst
  show Code.wp Try.prog (Code.seq _ _) _ _ _
  go_wp2
  go_loopw [9] (fun i wr => ∃ (k m : Nat) (v : Value) (l : List (List Value)), i = .int .i64 k ∧ k ≤ 12 ∧ m ≤ k ∧ Hid (l.length = m) ∧ Hid (LoopAt W wr bo 41 3 QAcc v l) ∧ Hid (Blk wr bo 28 #[v1, v2, v3, v, zs, zs, zs, zs, zs, zs, zs, zs, zs, zs])) (fun i _ => 12 - (intOf i).toNat)
  case atStart => exact ⟨0, 0, _, [], rfl, by omega, by omega, rfl, LoopAt.start _ _ _ _, ST.out.o⟩
  case round =>
    rename_i Q' K aK
    have HK := Lib.hid aK
    clear aK
    obtain ⟨k, m, v, l, rfl, hk, hm, Hm, HL, HO⟩ := hrel
    obtain ⟨A1, c1, hu⟩ := own_form HL.out.own
    subst hu
    have bc1 := ST.out.c.fr HL.out.fr (fun e => by have : bc = bo := e; omega)
    have t0 := bc1.cell 3
    rw [E0.out] at t0
    have q0 := HO.out.cell 3
    have q1 := HO.out.frozen 3
    simp at q0
    have hlc := bc1.lt
    clear bc1
    by_cases hlt : k < xA.length ∧ k < 12
    · obtain ⟨hlt, hlt2⟩ := hlt
      have hf : Fr No w wr := (ST.out.next HL.out.fr HO.out).fr
      obtain ⟨ad, ecs, rfl, hs, hecs, hcell, hr⟩ := RSl.at_ HX.out hlt
      obtain ⟨sa, sb, n, ha, hb, hn, rfl⟩ := acc_open hr
      have hc : ∀ j, j < 3 → wr.cell? ((ad.add (k * 3)).add j) = _ := fun j hj => (hf.cell (by rw [block_add, block_add]; exact hS _ hs) (fun h => h)).trans (hcell j hj)
      have c0' : wr.cell? (ad.add (k * 3)) = some (.string ⟨sa.toArray⟩) := by have := hc 0 (by omega); rw [add_zero] at this; exact this
      have c1' : wr.cell? ⟨(ad.add (k * 3)).block, (ad.add (k * 3)).off + 1, none⟩ = some (.string ⟨sb.toArray⟩) := hc 1 (by omega)
      have c2' : wr.cell? ⟨(ad.add (k * 3)).block, (ad.add (k * 3)).off + 2, none⟩ = some (.int .i64 n) := hc 2 (by omega)
      have hnb : ¬ Of (.slice A1 l.length c1) bo := fun h => by have := (HL.out.new _ h).1; omega
      have Hnb := Lib.hid hnb
      have Hnc := Lib.hid (show ¬ Of (.slice A1 l.length c1) bc from fun h => by have := (HL.out.new _ h).1; omega)
      have hne1 : bc ≠ bo := by omega
      have hne2 : (ad.add (k * 3)).block ≠ bo := by have := hS _ hs; have := ST.out.hc; rw [block_add]; omega
      have hla : (ad.add (k * 3)).block < wr.heap.size := by have := hS _ hs; have := hf.size; rw [block_add]; omega
      have hlo := HO.out.lt
      have hne3 : bo ≠ bc := by omega
      have hne4 : bo ≠ (ad.add (k * 3)).block := Ne.symm hne2
      have Hna := Lib.hid (show ¬ Of (.slice A1 l.length c1) (ad.add (k * 3)).block from fun h => by have := (HL.out.new _ h).1; have := hS _ hs; have := ST.out.hc; rw [block_add] at *; omega)
      have hll : l.length ≤ 12 := by have := Hm.out; omega
      have Hs := Lib.hid hs
      have Hf := Lib.hid hf
      clear hc hcell hr hf hs hecs hnb
      go_wp2
      refine wp_region_noPanic ?_
      refine wp_region_held_drew (S := (fun w' => w'.cell? ⟨bc, 3, none⟩ = some (.slice (some ad) xA.length kX) ∧ w'.cell? (ad.add (k * 3)) = some (.string ⟨sa.toArray⟩) ∧ w'.cell? ⟨(ad.add (k * 3)).block, (ad.add (k * 3)).off + 1, none⟩ = some (.string ⟨sb.toArray⟩) ∧ w'.cell? ⟨(ad.add (k * 3)).block, (ad.add (k * 3)).off + 2, none⟩ = some (.int .i64 n))) (by kernel_rfl) ?_ (fun hHeld => ?_)
      · ((try dsimp only); (go_keep))
      refine wpAnyH_take (i := 0) (v := ?_) rfl (by kernel_rfl) (by kernel_rfl) (by kernel_rfl) (fun _ _ _ h => h) (Or.inl ⟨by rfl, ?_⟩) (by assumption) ?_
      rotate_left
      · (intro w hSw; (try dsimp only at hSw); (try simp only [List.getElem_toArray, List.getElem_cons_succ, List.getElem_cons_zero]); go_simp; all_goals with_reducible rfl)
      (try simp only [Act.put, List.setIfInBounds_toArray, List.set_cons_zero, List.set_cons_succ])
      refine wpAnyH_take (i := 2) (v := ?_) rfl (by kernel_rfl) (by kernel_rfl) (by kernel_rfl) (fun _ _ _ h => h) (Or.inl ⟨by rfl, ?_⟩) (by assumption) ?_
      rotate_left
      · (intro w hSw; (try dsimp only at hSw); (try simp only [List.getElem_toArray, List.getElem_cons_succ, List.getElem_cons_zero]); go_simp; all_goals with_reducible rfl)
      (try simp only [Act.put, List.setIfInBounds_toArray, List.set_cons_zero, List.set_cons_succ])
      refine wpAnyH_take (i := 3) (v := ?_) rfl (by kernel_rfl) (by kernel_rfl) (by kernel_rfl) (fun _ _ _ h => h) (Or.inl ⟨by rfl, ?_⟩) (by assumption) ?_
      rotate_left
      · (intro w hSw; (try dsimp only at hSw); (try simp only [List.getElem_toArray, List.getElem_cons_succ, List.getElem_cons_zero]); go_simp; all_goals with_reducible rfl)
      (try simp only [Act.put, List.setIfInBounds_toArray, List.set_cons_zero, List.set_cons_succ])
      refine wpAnyH_take (i := 4) (v := ?_) rfl (by kernel_rfl) (by kernel_rfl) (by kernel_rfl) (fun _ _ _ h => h) (Or.inl ⟨by rfl, ?_⟩) (by assumption) ?_
      rotate_left
      · (intro w hSw; (try dsimp only at hSw); (try simp only [List.getElem_toArray, List.getElem_cons_succ, List.getElem_cons_zero]); go_simp; all_goals with_reducible rfl)
      (try simp only [Act.put, List.setIfInBounds_toArray, List.set_cons_zero, List.set_cons_succ])
      refine wpAnyH_take (i := 5) (v := ?_) rfl (by kernel_rfl) (by kernel_rfl) (by kernel_rfl) (fun _ _ _ h => h) (Or.inl ⟨by rfl, ?_⟩) (by assumption) ?_
      rotate_left
      · (intro w hSw; (try dsimp only at hSw); (try simp only [List.getElem_toArray, List.getElem_cons_succ, List.getElem_cons_zero]); go_simp; all_goals with_reducible rfl)
      (try simp only [Act.put, List.setIfInBounds_toArray, List.set_cons_zero, List.set_cons_succ])
      refine wpAnyH_take (i := 6) (v := ?_) rfl (by kernel_rfl) (by kernel_rfl) (by kernel_rfl) (fun _ _ _ h => h) (Or.inl ⟨by rfl, ?_⟩) (by assumption) ?_
      rotate_left
      · (intro w hSw; (try dsimp only at hSw); (try simp only [List.getElem_toArray, List.getElem_cons_succ, List.getElem_cons_zero]); go_simp; all_goals with_reducible rfl)
      (try simp only [Act.put, List.setIfInBounds_toArray, List.set_cons_zero, List.set_cons_succ])
      refine wpAnyH_take (i := 7) (v := ?_) rfl (by kernel_rfl) (by kernel_rfl) (by kernel_rfl) (fun _ _ _ h => h) (Or.inl ⟨by rfl, ?_⟩) (by assumption) ?_
      rotate_left
      · (intro w hSw; (try dsimp only at hSw); (try simp only [List.getElem_toArray, List.getElem_cons_succ, List.getElem_cons_zero]); go_simp; all_goals with_reducible rfl)
      (try simp only [Act.put, List.setIfInBounds_toArray, List.set_cons_zero, List.set_cons_succ])
      refine wpAnyH_take (i := 9) (v := ?_) rfl (by kernel_rfl) (by kernel_rfl) (by kernel_rfl) (fun _ _ _ h => h) (Or.inl ⟨by rfl, ?_⟩) (by assumption) ?_
      rotate_left
      · (intro w hSw; (try dsimp only at hSw); (try simp only [List.getElem_toArray, List.getElem_cons_succ, List.getElem_cons_zero]); go_simp; all_goals with_reducible rfl)
      (try simp only [Act.put, List.setIfInBounds_toArray, List.set_cons_zero, List.set_cons_succ])
      refine wpAnyH_take (i := 10) (v := ?_) rfl (by kernel_rfl) (by kernel_rfl) (by kernel_rfl) (fun _ _ _ h => h) (Or.inl ⟨by rfl, ?_⟩) (by assumption) ?_
      rotate_left
      · (intro w hSw; (try dsimp only at hSw); (try simp only [List.getElem_toArray, List.getElem_cons_succ, List.getElem_cons_zero]); go_simp; all_goals with_reducible rfl)
      (try simp only [Act.put, List.setIfInBounds_toArray, List.set_cons_zero, List.set_cons_succ])
      refine wpAnyH_take (i := 11) (v := ?_) rfl (by kernel_rfl) (by kernel_rfl) (by kernel_rfl) (fun _ _ _ h => h) (Or.inl ⟨by rfl, ?_⟩) (by assumption) ?_
      rotate_left
      · (intro w hSw; (try dsimp only at hSw); (try simp only [List.getElem_toArray, List.getElem_cons_succ, List.getElem_cons_zero]); go_simp; all_goals with_reducible rfl)
      (try simp only [Act.put, List.setIfInBounds_toArray, List.set_cons_zero, List.set_cons_succ])
      refine wpAnyH_take (i := 12) (v := ?_) rfl (by kernel_rfl) (by kernel_rfl) (by kernel_rfl) (fun _ _ _ h => h) (Or.inl ⟨by rfl, ?_⟩) (by assumption) ?_
      rotate_left
      · (intro w hSw; (try dsimp only at hSw); (try simp only [List.getElem_toArray, List.getElem_cons_succ, List.getElem_cons_zero]); go_simp; all_goals with_reducible rfl)
      (try simp only [Act.put, List.setIfInBounds_toArray, List.set_cons_zero, List.set_cons_succ])
      refine wpAnyH_take (i := 13) (v := ?_) rfl (by kernel_rfl) (by kernel_rfl) (by kernel_rfl) (fun _ _ _ h => h) (Or.inl ⟨by rfl, ?_⟩) (by assumption) ?_
      rotate_left
      · (intro w hSw; (try dsimp only at hSw); (try simp only [List.getElem_toArray, List.getElem_cons_succ, List.getElem_cons_zero]); go_simp; all_goals with_reducible rfl)
      (try simp only [Act.put, List.setIfInBounds_toArray, List.set_cons_zero, List.set_cons_succ])
      refine wpAnyH_take (i := 14) (v := ?_) rfl (by kernel_rfl) (by kernel_rfl) (by kernel_rfl) (fun _ _ _ h => h) (Or.inl ⟨by rfl, ?_⟩) (by assumption) ?_
      rotate_left
      · (intro w hSw; (try dsimp only at hSw); (try simp only [List.getElem_toArray, List.getElem_cons_succ, List.getElem_cons_zero]); go_simp; all_goals with_reducible rfl)
      (try simp only [Act.put, List.setIfInBounds_toArray, List.set_cons_zero, List.set_cons_succ])
      refine wpAnyH_take (i := 16) (v := ?_) rfl (by kernel_rfl) (by kernel_rfl) (by kernel_rfl) (fun _ _ _ h => h) (Or.inl ⟨by rfl, ?_⟩) (by assumption) ?_
      rotate_left
      · (intro w hSw; (try dsimp only at hSw); (try simp only [List.getElem_toArray, List.getElem_cons_succ, List.getElem_cons_zero]); go_simp; all_goals with_reducible rfl)
      (try simp only [Act.put, List.setIfInBounds_toArray, List.set_cons_zero, List.set_cons_succ])
      refine wpAnyH_take (i := 17) (v := ?_) rfl (by kernel_rfl) (by kernel_rfl) (by kernel_rfl) (fun _ _ _ h => h) (Or.inl ⟨by rfl, ?_⟩) (by assumption) ?_
      rotate_left
      · (intro w hSw; (try dsimp only at hSw); (try simp only [List.getElem_toArray, List.getElem_cons_succ, List.getElem_cons_zero]); go_simp; all_goals with_reducible rfl)
      (try simp only [Act.put, List.setIfInBounds_toArray, List.set_cons_zero, List.set_cons_succ])
      refine wpAnyH_take (i := 18) (v := ?_) rfl (by kernel_rfl) (by kernel_rfl) (by kernel_rfl) (fun _ _ _ h => h) (Or.inl ⟨by rfl, ?_⟩) (by assumption) ?_
      rotate_left
      · (intro w hSw; (try dsimp only at hSw); (try simp only [List.getElem_toArray, List.getElem_cons_succ, List.getElem_cons_zero]); go_simp; all_goals with_reducible rfl)
      (try simp only [Act.put, List.setIfInBounds_toArray, List.set_cons_zero, List.set_cons_succ])
      refine wpAnyH_take (i := 19) (v := ?_) rfl (by kernel_rfl) (by kernel_rfl) (by kernel_rfl) (fun _ _ _ h => h) (Or.inl ⟨by rfl, ?_⟩) (by assumption) ?_
      rotate_left
      · (intro w hSw; (try dsimp only at hSw); (try simp only [List.getElem_toArray, List.getElem_cons_succ, List.getElem_cons_zero]); go_simp; all_goals with_reducible rfl)
      (try simp only [Act.put, List.setIfInBounds_toArray, List.set_cons_zero, List.set_cons_succ])
      refine wpAnyH_take (i := 20) (v := ?_) rfl (by kernel_rfl) (by kernel_rfl) (by kernel_rfl) (fun _ _ _ h => h) (Or.inl ⟨by rfl, ?_⟩) (by assumption) ?_
      rotate_left
      · (intro w hSw; (try dsimp only at hSw); (try simp only [List.getElem_toArray, List.getElem_cons_succ, List.getElem_cons_zero]); go_simp; all_goals with_reducible rfl)
      (try simp only [Act.put, List.setIfInBounds_toArray, List.set_cons_zero, List.set_cons_succ])
      refine wpAnyH_take (i := 21) (v := ?_) rfl (by kernel_rfl) (by kernel_rfl) (by kernel_rfl) (fun _ _ _ h => h) (Or.inl ⟨by rfl, ?_⟩) (by assumption) ?_
      rotate_left
      · (intro w hSw; (try dsimp only at hSw); (try simp only [List.getElem_toArray, List.getElem_cons_succ, List.getElem_cons_zero]); go_simp; all_goals with_reducible rfl)
      (try simp only [Act.put, List.setIfInBounds_toArray, List.set_cons_zero, List.set_cons_succ])
      refine wpAnyH_ready (rs := [1, 8]) (by kernel_rfl) (by simp) ?_
      refine AllReadyH.cons (o := ?_) ?_ (fun K hK => ?_) ?_
      rotate_left
      · (simp only [List.getElem?_toArray, List.getElem?_cons_succ, List.getElem?_cons_zero]; rfl)
      · skip
        go_simp
        refine hK.out _ _ ?_ (fun hNew => ?_)
        · ((try dsimp only); (go_keep))
        revert hNew
        clear hHeld hK K
        intro hHeld
        (try simp only [Act.put, List.setIfInBounds_toArray, List.set_cons_zero, List.set_cons_succ])
        refine wpAnyH_ready (rs := [8]) (by kernel_rfl) (by simp) ?_
        refine AllReadyH.cons (o := ?_) ?_ (fun K hK => ?_) ?_
        rotate_left
        · (simp only [List.getElem?_toArray, List.getElem?_cons_succ, List.getElem?_cons_zero]; rfl)
        · skip
          go_simp
          (first | (go_at_call 7; refine (cut40_any _ _).mono ?_; rintro e w' ⟨rfl, rfl⟩) | (refine step_push rfl (.tmp 148) (.tmp 170) 25 rfl 41 (.agg #[zs, zs, .int .i64 0]) 3 40 Try.underlying25 infoAcc rfl (by decide) (.slice A1 l.length c1) _ _ (by simp [Act.eval, Act.put]) HL.out.own #[.string ⟨(cutS sa).toArray⟩, .string ⟨(cutS sb).toArray⟩, .int .i64 n] (by simp [Act.eval, Act.put]) rfl (by intro u hu; simp at hu; rcases hu with rfl | rfl | rfl <;> rfl) (by omega) (by unfold maxLen; omega) ?_; intro g4 cap4 w4 p1 p2 p3; have b2 := HO.out.fr p2 Hnb.out; have r0 := b2.cell 3; have r1 := b2.frozen 3; simp at r0; have r2 := p2.cell (p := ⟨bc, 3, none⟩) hlc Hnc.out; rw [t0] at r2; have ra0 := (p2.cell (p := ad.add (k * 3)) hla Hna.out).trans c0'; have ra1 := (p2.cell (p := ⟨(ad.add (k * 3)).block, (ad.add (k * 3)).off + 1, none⟩) hla Hna.out).trans c1'; have ra2 := (p2.cell (p := ⟨(ad.add (k * 3)).block, (ad.add (k * 3)).off + 2, none⟩) hla Hna.out).trans c2'; have P1 := Lib.hid p1; have P2 := Lib.hid p2; have P3 := Lib.hid p3; have B2 := Lib.hid b2; clear p1 p2 p3 b2) | (refine step_pushD rfl (.tmp 148) (.tmp 170) 25 rfl 41 (.agg #[zs, zs, .int .i64 0]) 3 40 Try.underlying25 infoAcc rfl (by decide) (.slice A1 l.length c1) _ _ (by simp [Act.eval, Act.put]) HL.out.own #[.string ⟨(cutS sa).toArray⟩, .string ⟨(cutS sb).toArray⟩, .int .i64 n] (by simp [Act.eval, Act.put]) rfl (by intro u hu; simp at hu; rcases hu with rfl | rfl | rfl <;> rfl) (by omega) (by unfold maxLen; omega) ?_; intro g4 cap4 w4 p1 p2 p3; have b2 := HO.out.fr p2 Hnb.out; have r0 := b2.cell 3; have r1 := b2.frozen 3; simp at r0; have r2 := p2.cell (p := ⟨bc, 3, none⟩) hlc Hnc.out; rw [t0] at r2; have ra0 := (p2.cell (p := ad.add (k * 3)) hla Hna.out).trans c0'; have ra1 := (p2.cell (p := ⟨(ad.add (k * 3)).block, (ad.add (k * 3)).off + 1, none⟩) hla Hna.out).trans c1'; have ra2 := (p2.cell (p := ⟨(ad.add (k * 3)).block, (ad.add (k * 3)).off + 2, none⟩) hla Hna.out).trans c2'; have P1 := Lib.hid p1; have P2 := Lib.hid p2; have P3 := Lib.hid p3; have B2 := Lib.hid b2; clear p1 p2 p3 b2))
          refine hK.out _ _ ?_ (fun hNew => ?_)
          · ((try dsimp only); (go_keep))
          revert hNew
          clear hHeld hK K
          intro hHeld
          (try simp only [Act.put, List.setIfInBounds_toArray, List.set_cons_zero, List.set_cons_succ])
          refine wpAnyH_ready (rs := [15]) (by kernel_rfl) (by simp) ?_
          refine AllReadyH.cons (o := ?_) ?_ (fun K hK => ?_) ?_
          rotate_left
          · (simp only [List.getElem?_toArray, List.getElem?_cons_succ, List.getElem?_cons_zero]; rfl)
          · skip
            go_simp
            (first | (go_at_call 7; refine (cut40_any _ _).mono ?_; rintro e w' ⟨rfl, rfl⟩) | (refine step_push rfl (.tmp 148) (.tmp 170) 25 rfl 41 (.agg #[zs, zs, .int .i64 0]) 3 40 Try.underlying25 infoAcc rfl (by decide) (.slice A1 l.length c1) _ _ (by simp [Act.eval, Act.put]) HL.out.own #[.string ⟨(cutS sa).toArray⟩, .string ⟨(cutS sb).toArray⟩, .int .i64 n] (by simp [Act.eval, Act.put]) rfl (by intro u hu; simp at hu; rcases hu with rfl | rfl | rfl <;> rfl) (by omega) (by unfold maxLen; omega) ?_; intro g4 cap4 w4 p1 p2 p3; have b2 := HO.out.fr p2 Hnb.out; have r0 := b2.cell 3; have r1 := b2.frozen 3; simp at r0; have r2 := p2.cell (p := ⟨bc, 3, none⟩) hlc Hnc.out; rw [t0] at r2; have ra0 := (p2.cell (p := ad.add (k * 3)) hla Hna.out).trans c0'; have ra1 := (p2.cell (p := ⟨(ad.add (k * 3)).block, (ad.add (k * 3)).off + 1, none⟩) hla Hna.out).trans c1'; have ra2 := (p2.cell (p := ⟨(ad.add (k * 3)).block, (ad.add (k * 3)).off + 2, none⟩) hla Hna.out).trans c2'; have P1 := Lib.hid p1; have P2 := Lib.hid p2; have P3 := Lib.hid p3; have B2 := Lib.hid b2; clear p1 p2 p3 b2) | (refine step_pushD rfl (.tmp 148) (.tmp 170) 25 rfl 41 (.agg #[zs, zs, .int .i64 0]) 3 40 Try.underlying25 infoAcc rfl (by decide) (.slice A1 l.length c1) _ _ (by simp [Act.eval, Act.put]) HL.out.own #[.string ⟨(cutS sa).toArray⟩, .string ⟨(cutS sb).toArray⟩, .int .i64 n] (by simp [Act.eval, Act.put]) rfl (by intro u hu; simp at hu; rcases hu with rfl | rfl | rfl <;> rfl) (by omega) (by unfold maxLen; omega) ?_; intro g4 cap4 w4 p1 p2 p3; have b2 := HO.out.fr p2 Hnb.out; have r0 := b2.cell 3; have r1 := b2.frozen 3; simp at r0; have r2 := p2.cell (p := ⟨bc, 3, none⟩) hlc Hnc.out; rw [t0] at r2; have ra0 := (p2.cell (p := ad.add (k * 3)) hla Hna.out).trans c0'; have ra1 := (p2.cell (p := ⟨(ad.add (k * 3)).block, (ad.add (k * 3)).off + 1, none⟩) hla Hna.out).trans c1'; have ra2 := (p2.cell (p := ⟨(ad.add (k * 3)).block, (ad.add (k * 3)).off + 2, none⟩) hla Hna.out).trans c2'; have P1 := Lib.hid p1; have P2 := Lib.hid p2; have P3 := Lib.hid p3; have B2 := Lib.hid b2; clear p1 p2 p3 b2))
            refine hK.out _ _ ?_ (fun hNew => ?_)
            · ((try dsimp only); (go_keep))
            revert hNew
            clear hHeld hK K
            intro hHeld
            (try simp only [Act.put, List.setIfInBounds_toArray, List.set_cons_zero, List.set_cons_succ])
            refine wpAnyH_take (i := 22) (v := ?_) rfl (by kernel_rfl) (by kernel_rfl) (by kernel_rfl) (fun _ _ _ h => h) (Or.inl ⟨by rfl, ?_⟩) (by assumption) ?_
            rotate_left
            · (intro w hSw; (try dsimp only at hSw); (try simp only [List.getElem_toArray, List.getElem_cons_succ, List.getElem_cons_zero]); go_simp; all_goals with_reducible rfl)
            (try simp only [Act.put, List.setIfInBounds_toArray, List.set_cons_zero, List.set_cons_succ])
            refine wpAnyH_ready (rs := [23]) (by kernel_rfl) (by simp) ?_
            refine AllReadyH.cons (o := ?_) ?_ (fun K hK => ?_) ?_
            rotate_left
            · (simp only [List.getElem?_toArray, List.getElem?_cons_succ, List.getElem?_cons_zero]; rfl)
            · skip
              go_simp
              refine hK.out _ _ ?_ (fun hNew => ?_)
              · ((try dsimp only); (go_keep))
              revert hNew
              clear hHeld hK K
              intro hHeld
              (try simp only [Act.put, List.setIfInBounds_toArray, List.set_cons_zero, List.set_cons_succ])
              refine wpAnyH_ready (rs := [24]) (by kernel_rfl) (by simp) ?_
              refine AllReadyH.cons (o := ?_) ?_ (fun K hK => ?_) ?_
              rotate_left
              · (simp only [List.getElem?_toArray, List.getElem?_cons_succ, List.getElem?_cons_zero]; rfl)
              · skip
                (first | (go_at_call 7; refine (cut40_any _ _).mono ?_; rintro e w' ⟨rfl, rfl⟩) | (refine step_push rfl (.tmp 148) (.tmp 170) 25 rfl 41 (.agg #[zs, zs, .int .i64 0]) 3 40 Try.underlying25 infoAcc rfl (by decide) (.slice A1 l.length c1) _ _ (by simp [Act.eval, Act.put]) HL.out.own #[.string ⟨(cutS sa).toArray⟩, .string ⟨(cutS sb).toArray⟩, .int .i64 n] (by simp [Act.eval, Act.put]) rfl (by intro u hu; simp at hu; rcases hu with rfl | rfl | rfl <;> rfl) (by omega) (by unfold maxLen; omega) ?_; intro g4 cap4 w4 p1 p2 p3; have b2 := HO.out.fr p2 Hnb.out; have r0 := b2.cell 3; have r1 := b2.frozen 3; simp at r0; have r2 := p2.cell (p := ⟨bc, 3, none⟩) hlc Hnc.out; rw [t0] at r2; have ra0 := (p2.cell (p := ad.add (k * 3)) hla Hna.out).trans c0'; have ra1 := (p2.cell (p := ⟨(ad.add (k * 3)).block, (ad.add (k * 3)).off + 1, none⟩) hla Hna.out).trans c1'; have ra2 := (p2.cell (p := ⟨(ad.add (k * 3)).block, (ad.add (k * 3)).off + 2, none⟩) hla Hna.out).trans c2'; have P1 := Lib.hid p1; have P2 := Lib.hid p2; have P3 := Lib.hid p3; have B2 := Lib.hid b2; clear p1 p2 p3 b2) | (refine step_pushD rfl (.tmp 148) (.tmp 170) 25 rfl 41 (.agg #[zs, zs, .int .i64 0]) 3 40 Try.underlying25 infoAcc rfl (by decide) (.slice A1 l.length c1) _ _ (by simp [Act.eval, Act.put]) HL.out.own #[.string ⟨(cutS sa).toArray⟩, .string ⟨(cutS sb).toArray⟩, .int .i64 n] (by simp [Act.eval, Act.put]) rfl (by intro u hu; simp at hu; rcases hu with rfl | rfl | rfl <;> rfl) (by omega) (by unfold maxLen; omega) ?_; intro g4 cap4 w4 p1 p2 p3; have b2 := HO.out.fr p2 Hnb.out; have r0 := b2.cell 3; have r1 := b2.frozen 3; simp at r0; have r2 := p2.cell (p := ⟨bc, 3, none⟩) hlc Hnc.out; rw [t0] at r2; have ra0 := (p2.cell (p := ad.add (k * 3)) hla Hna.out).trans c0'; have ra1 := (p2.cell (p := ⟨(ad.add (k * 3)).block, (ad.add (k * 3)).off + 1, none⟩) hla Hna.out).trans c1'; have ra2 := (p2.cell (p := ⟨(ad.add (k * 3)).block, (ad.add (k * 3)).off + 2, none⟩) hla Hna.out).trans c2'; have P1 := Lib.hid p1; have P2 := Lib.hid p2; have P3 := Lib.hid p3; have B2 := Lib.hid b2; clear p1 p2 p3 b2))
                refine hK.out _ _ ?_ (fun hNew => ?_)
                · ((try dsimp only); (go_keep))
                revert hNew
                clear hHeld hK K
                intro hHeld
                (try simp only [Act.put, List.setIfInBounds_toArray, List.set_cons_zero, List.set_cons_succ])
                refine wpAnyH_take (i := 25) (v := ?_) rfl (by kernel_rfl) (by kernel_rfl) (by kernel_rfl) (fun _ _ _ h => h) (Or.inl ⟨by rfl, ?_⟩) (by assumption) ?_
                rotate_left
                · (intro w hSw; (try dsimp only at hSw); (try simp only [List.getElem_toArray, List.getElem_cons_succ, List.getElem_cons_zero]); go_simp; all_goals with_reducible rfl)
                (try simp only [Act.put, List.setIfInBounds_toArray, List.set_cons_zero, List.set_cons_succ])
                refine wpAnyH_ready (rs := [26]) (by kernel_rfl) (by simp) ?_
                refine AllReadyH.cons (o := ?_) ?_ (fun K hK => ?_) ?_
                rotate_left
                · (simp only [List.getElem?_toArray, List.getElem?_cons_succ, List.getElem?_cons_zero]; rfl)
                · skip
                  go_simp
                  refine hK.out _ _ ?_ (fun hNew => ?_)
                  · ((try dsimp only); (go_keep))
                  revert hNew
                  clear hHeld hK K
                  intro hHeld
                  (try simp only [Act.put, List.setIfInBounds_toArray, List.set_cons_zero, List.set_cons_succ])
                  refine wpAnyH_done (by kernel_rfl) ?_ _
                  refine NoPanic.normal ?_
                  go_wp2
                  go_roundw
                  case rel => exact ⟨k + 1, m + 1, _, l ++ [[.string ⟨(cutS sa).toArray⟩, .string ⟨(cutS sb).toArray⟩, .int .i64 n]], by go_num, by omega, by omega, (show _ = _ from by have := Hm.out; simp [this]), HL.out.push stable_qacc hbo (by first | exact Fr.refl _ _ | exact (Fr.refl _ _).drew) (S2 := No) (fun b h => h.elim) rfl ⟨(cutS sa, cutS sb, n), by simp, ⟨rfl, (cut40_le _)⟩, by simp, ⟨rfl, (cut40_le _)⟩, rfl, hn⟩ P1.out P2.out (fun g hg => by have := P3.out; injection hg with e; subst e; exact this) ((Fr.refl (Just bo) w4).setCell (p := ⟨bo, 3, none⟩) (.inl rfl) _), (show Blk _ _ _ _ from B2.out.put 3 _)⟩
                  case measure => simp [intOf]; omega
                exact AllReadyH.nil
              exact AllReadyH.nil
            exact AllReadyH.nil
          exact AllReadyH.nil
        exact AllReadyH.nil
      refine AllReadyH.cons (o := ?_) ?_ (fun K hK => ?_) ?_
      rotate_left
      · (simp only [List.getElem?_toArray, List.getElem?_cons_succ, List.getElem?_cons_zero]; rfl)
      · skip
        go_simp
        (first | (go_at_call 7; refine (cut40_any _ _).mono ?_; rintro e w' ⟨rfl, rfl⟩) | (refine step_push rfl (.tmp 148) (.tmp 170) 25 rfl 41 (.agg #[zs, zs, .int .i64 0]) 3 40 Try.underlying25 infoAcc rfl (by decide) (.slice A1 l.length c1) _ _ (by simp [Act.eval, Act.put]) HL.out.own #[.string ⟨(cutS sa).toArray⟩, .string ⟨(cutS sb).toArray⟩, .int .i64 n] (by simp [Act.eval, Act.put]) rfl (by intro u hu; simp at hu; rcases hu with rfl | rfl | rfl <;> rfl) (by omega) (by unfold maxLen; omega) ?_; intro g4 cap4 w4 p1 p2 p3; have b2 := HO.out.fr p2 Hnb.out; have r0 := b2.cell 3; have r1 := b2.frozen 3; simp at r0; have r2 := p2.cell (p := ⟨bc, 3, none⟩) hlc Hnc.out; rw [t0] at r2; have ra0 := (p2.cell (p := ad.add (k * 3)) hla Hna.out).trans c0'; have ra1 := (p2.cell (p := ⟨(ad.add (k * 3)).block, (ad.add (k * 3)).off + 1, none⟩) hla Hna.out).trans c1'; have ra2 := (p2.cell (p := ⟨(ad.add (k * 3)).block, (ad.add (k * 3)).off + 2, none⟩) hla Hna.out).trans c2'; have P1 := Lib.hid p1; have P2 := Lib.hid p2; have P3 := Lib.hid p3; have B2 := Lib.hid b2; clear p1 p2 p3 b2) | (refine step_pushD rfl (.tmp 148) (.tmp 170) 25 rfl 41 (.agg #[zs, zs, .int .i64 0]) 3 40 Try.underlying25 infoAcc rfl (by decide) (.slice A1 l.length c1) _ _ (by simp [Act.eval, Act.put]) HL.out.own #[.string ⟨(cutS sa).toArray⟩, .string ⟨(cutS sb).toArray⟩, .int .i64 n] (by simp [Act.eval, Act.put]) rfl (by intro u hu; simp at hu; rcases hu with rfl | rfl | rfl <;> rfl) (by omega) (by unfold maxLen; omega) ?_; intro g4 cap4 w4 p1 p2 p3; have b2 := HO.out.fr p2 Hnb.out; have r0 := b2.cell 3; have r1 := b2.frozen 3; simp at r0; have r2 := p2.cell (p := ⟨bc, 3, none⟩) hlc Hnc.out; rw [t0] at r2; have ra0 := (p2.cell (p := ad.add (k * 3)) hla Hna.out).trans c0'; have ra1 := (p2.cell (p := ⟨(ad.add (k * 3)).block, (ad.add (k * 3)).off + 1, none⟩) hla Hna.out).trans c1'; have ra2 := (p2.cell (p := ⟨(ad.add (k * 3)).block, (ad.add (k * 3)).off + 2, none⟩) hla Hna.out).trans c2'; have P1 := Lib.hid p1; have P2 := Lib.hid p2; have P3 := Lib.hid p3; have B2 := Lib.hid b2; clear p1 p2 p3 b2))
        refine hK.out _ _ ?_ (fun hNew => ?_)
        · ((try dsimp only); (go_keep))
        revert hNew
        clear hHeld hK K
        intro hHeld
        (try simp only [Act.put, List.setIfInBounds_toArray, List.set_cons_zero, List.set_cons_succ])
        refine wpAnyH_ready (rs := [1, 15]) (by kernel_rfl) (by simp) ?_
        refine AllReadyH.cons (o := ?_) ?_ (fun K hK => ?_) ?_
        rotate_left
        · (simp only [List.getElem?_toArray, List.getElem?_cons_succ, List.getElem?_cons_zero]; rfl)
        · skip
          go_simp
          refine hK.out _ _ ?_ (fun hNew => ?_)
          · ((try dsimp only); (go_keep))
          revert hNew
          clear hHeld hK K
          intro hHeld
          (try simp only [Act.put, List.setIfInBounds_toArray, List.set_cons_zero, List.set_cons_succ])
          refine wpAnyH_ready (rs := [15]) (by kernel_rfl) (by simp) ?_
          refine AllReadyH.cons (o := ?_) ?_ (fun K hK => ?_) ?_
          rotate_left
          · (simp only [List.getElem?_toArray, List.getElem?_cons_succ, List.getElem?_cons_zero]; rfl)
          · skip
            go_simp
            (first | (go_at_call 7; refine (cut40_any _ _).mono ?_; rintro e w' ⟨rfl, rfl⟩) | (refine step_push rfl (.tmp 148) (.tmp 170) 25 rfl 41 (.agg #[zs, zs, .int .i64 0]) 3 40 Try.underlying25 infoAcc rfl (by decide) (.slice A1 l.length c1) _ _ (by simp [Act.eval, Act.put]) HL.out.own #[.string ⟨(cutS sa).toArray⟩, .string ⟨(cutS sb).toArray⟩, .int .i64 n] (by simp [Act.eval, Act.put]) rfl (by intro u hu; simp at hu; rcases hu with rfl | rfl | rfl <;> rfl) (by omega) (by unfold maxLen; omega) ?_; intro g4 cap4 w4 p1 p2 p3; have b2 := HO.out.fr p2 Hnb.out; have r0 := b2.cell 3; have r1 := b2.frozen 3; simp at r0; have r2 := p2.cell (p := ⟨bc, 3, none⟩) hlc Hnc.out; rw [t0] at r2; have ra0 := (p2.cell (p := ad.add (k * 3)) hla Hna.out).trans c0'; have ra1 := (p2.cell (p := ⟨(ad.add (k * 3)).block, (ad.add (k * 3)).off + 1, none⟩) hla Hna.out).trans c1'; have ra2 := (p2.cell (p := ⟨(ad.add (k * 3)).block, (ad.add (k * 3)).off + 2, none⟩) hla Hna.out).trans c2'; have P1 := Lib.hid p1; have P2 := Lib.hid p2; have P3 := Lib.hid p3; have B2 := Lib.hid b2; clear p1 p2 p3 b2) | (refine step_pushD rfl (.tmp 148) (.tmp 170) 25 rfl 41 (.agg #[zs, zs, .int .i64 0]) 3 40 Try.underlying25 infoAcc rfl (by decide) (.slice A1 l.length c1) _ _ (by simp [Act.eval, Act.put]) HL.out.own #[.string ⟨(cutS sa).toArray⟩, .string ⟨(cutS sb).toArray⟩, .int .i64 n] (by simp [Act.eval, Act.put]) rfl (by intro u hu; simp at hu; rcases hu with rfl | rfl | rfl <;> rfl) (by omega) (by unfold maxLen; omega) ?_; intro g4 cap4 w4 p1 p2 p3; have b2 := HO.out.fr p2 Hnb.out; have r0 := b2.cell 3; have r1 := b2.frozen 3; simp at r0; have r2 := p2.cell (p := ⟨bc, 3, none⟩) hlc Hnc.out; rw [t0] at r2; have ra0 := (p2.cell (p := ad.add (k * 3)) hla Hna.out).trans c0'; have ra1 := (p2.cell (p := ⟨(ad.add (k * 3)).block, (ad.add (k * 3)).off + 1, none⟩) hla Hna.out).trans c1'; have ra2 := (p2.cell (p := ⟨(ad.add (k * 3)).block, (ad.add (k * 3)).off + 2, none⟩) hla Hna.out).trans c2'; have P1 := Lib.hid p1; have P2 := Lib.hid p2; have P3 := Lib.hid p3; have B2 := Lib.hid b2; clear p1 p2 p3 b2))
            refine hK.out _ _ ?_ (fun hNew => ?_)
            · ((try dsimp only); (go_keep))
            revert hNew
            clear hHeld hK K
            intro hHeld
            (try simp only [Act.put, List.setIfInBounds_toArray, List.set_cons_zero, List.set_cons_succ])
            refine wpAnyH_take (i := 22) (v := ?_) rfl (by kernel_rfl) (by kernel_rfl) (by kernel_rfl) (fun _ _ _ h => h) (Or.inl ⟨by rfl, ?_⟩) (by assumption) ?_
            rotate_left
            · (intro w hSw; (try dsimp only at hSw); (try simp only [List.getElem_toArray, List.getElem_cons_succ, List.getElem_cons_zero]); go_simp; all_goals with_reducible rfl)
            (try simp only [Act.put, List.setIfInBounds_toArray, List.set_cons_zero, List.set_cons_succ])
            refine wpAnyH_ready (rs := [23]) (by kernel_rfl) (by simp) ?_
            refine AllReadyH.cons (o := ?_) ?_ (fun K hK => ?_) ?_
            rotate_left
            · (simp only [List.getElem?_toArray, List.getElem?_cons_succ, List.getElem?_cons_zero]; rfl)
            · skip
              go_simp
              refine hK.out _ _ ?_ (fun hNew => ?_)
              · ((try dsimp only); (go_keep))
              revert hNew
              clear hHeld hK K
              intro hHeld
              (try simp only [Act.put, List.setIfInBounds_toArray, List.set_cons_zero, List.set_cons_succ])
              refine wpAnyH_ready (rs := [24]) (by kernel_rfl) (by simp) ?_
              refine AllReadyH.cons (o := ?_) ?_ (fun K hK => ?_) ?_
              rotate_left
              · (simp only [List.getElem?_toArray, List.getElem?_cons_succ, List.getElem?_cons_zero]; rfl)
              · skip
                (first | (go_at_call 7; refine (cut40_any _ _).mono ?_; rintro e w' ⟨rfl, rfl⟩) | (refine step_push rfl (.tmp 148) (.tmp 170) 25 rfl 41 (.agg #[zs, zs, .int .i64 0]) 3 40 Try.underlying25 infoAcc rfl (by decide) (.slice A1 l.length c1) _ _ (by simp [Act.eval, Act.put]) HL.out.own #[.string ⟨(cutS sa).toArray⟩, .string ⟨(cutS sb).toArray⟩, .int .i64 n] (by simp [Act.eval, Act.put]) rfl (by intro u hu; simp at hu; rcases hu with rfl | rfl | rfl <;> rfl) (by omega) (by unfold maxLen; omega) ?_; intro g4 cap4 w4 p1 p2 p3; have b2 := HO.out.fr p2 Hnb.out; have r0 := b2.cell 3; have r1 := b2.frozen 3; simp at r0; have r2 := p2.cell (p := ⟨bc, 3, none⟩) hlc Hnc.out; rw [t0] at r2; have ra0 := (p2.cell (p := ad.add (k * 3)) hla Hna.out).trans c0'; have ra1 := (p2.cell (p := ⟨(ad.add (k * 3)).block, (ad.add (k * 3)).off + 1, none⟩) hla Hna.out).trans c1'; have ra2 := (p2.cell (p := ⟨(ad.add (k * 3)).block, (ad.add (k * 3)).off + 2, none⟩) hla Hna.out).trans c2'; have P1 := Lib.hid p1; have P2 := Lib.hid p2; have P3 := Lib.hid p3; have B2 := Lib.hid b2; clear p1 p2 p3 b2) | (refine step_pushD rfl (.tmp 148) (.tmp 170) 25 rfl 41 (.agg #[zs, zs, .int .i64 0]) 3 40 Try.underlying25 infoAcc rfl (by decide) (.slice A1 l.length c1) _ _ (by simp [Act.eval, Act.put]) HL.out.own #[.string ⟨(cutS sa).toArray⟩, .string ⟨(cutS sb).toArray⟩, .int .i64 n] (by simp [Act.eval, Act.put]) rfl (by intro u hu; simp at hu; rcases hu with rfl | rfl | rfl <;> rfl) (by omega) (by unfold maxLen; omega) ?_; intro g4 cap4 w4 p1 p2 p3; have b2 := HO.out.fr p2 Hnb.out; have r0 := b2.cell 3; have r1 := b2.frozen 3; simp at r0; have r2 := p2.cell (p := ⟨bc, 3, none⟩) hlc Hnc.out; rw [t0] at r2; have ra0 := (p2.cell (p := ad.add (k * 3)) hla Hna.out).trans c0'; have ra1 := (p2.cell (p := ⟨(ad.add (k * 3)).block, (ad.add (k * 3)).off + 1, none⟩) hla Hna.out).trans c1'; have ra2 := (p2.cell (p := ⟨(ad.add (k * 3)).block, (ad.add (k * 3)).off + 2, none⟩) hla Hna.out).trans c2'; have P1 := Lib.hid p1; have P2 := Lib.hid p2; have P3 := Lib.hid p3; have B2 := Lib.hid b2; clear p1 p2 p3 b2))
                refine hK.out _ _ ?_ (fun hNew => ?_)
                · ((try dsimp only); (go_keep))
                revert hNew
                clear hHeld hK K
                intro hHeld
                (try simp only [Act.put, List.setIfInBounds_toArray, List.set_cons_zero, List.set_cons_succ])
                refine wpAnyH_take (i := 25) (v := ?_) rfl (by kernel_rfl) (by kernel_rfl) (by kernel_rfl) (fun _ _ _ h => h) (Or.inl ⟨by rfl, ?_⟩) (by assumption) ?_
                rotate_left
                · (intro w hSw; (try dsimp only at hSw); (try simp only [List.getElem_toArray, List.getElem_cons_succ, List.getElem_cons_zero]); go_simp; all_goals with_reducible rfl)
                (try simp only [Act.put, List.setIfInBounds_toArray, List.set_cons_zero, List.set_cons_succ])
                refine wpAnyH_ready (rs := [26]) (by kernel_rfl) (by simp) ?_
                refine AllReadyH.cons (o := ?_) ?_ (fun K hK => ?_) ?_
                rotate_left
                · (simp only [List.getElem?_toArray, List.getElem?_cons_succ, List.getElem?_cons_zero]; rfl)
                · skip
                  go_simp
                  refine hK.out _ _ ?_ (fun hNew => ?_)
                  · ((try dsimp only); (go_keep))
                  revert hNew
                  clear hHeld hK K
                  intro hHeld
                  (try simp only [Act.put, List.setIfInBounds_toArray, List.set_cons_zero, List.set_cons_succ])
                  refine wpAnyH_done (by kernel_rfl) ?_ _
                  refine NoPanic.normal ?_
                  go_wp2
                  go_roundw
                  case rel => exact ⟨k + 1, m + 1, _, l ++ [[.string ⟨(cutS sa).toArray⟩, .string ⟨(cutS sb).toArray⟩, .int .i64 n]], by go_num, by omega, by omega, (show _ = _ from by have := Hm.out; simp [this]), HL.out.push stable_qacc hbo (by first | exact Fr.refl _ _ | exact (Fr.refl _ _).drew) (S2 := No) (fun b h => h.elim) rfl ⟨(cutS sa, cutS sb, n), by simp, ⟨rfl, (cut40_le _)⟩, by simp, ⟨rfl, (cut40_le _)⟩, rfl, hn⟩ P1.out P2.out (fun g hg => by have := P3.out; injection hg with e; subst e; exact this) ((Fr.refl (Just bo) w4).setCell (p := ⟨bo, 3, none⟩) (.inl rfl) _), (show Blk _ _ _ _ from B2.out.put 3 _)⟩
                  case measure => simp [intOf]; omega
                exact AllReadyH.nil
              exact AllReadyH.nil
            exact AllReadyH.nil
          exact AllReadyH.nil
        refine AllReadyH.cons (o := ?_) ?_ (fun K hK => ?_) ?_
        rotate_left
        · (simp only [List.getElem?_toArray, List.getElem?_cons_succ, List.getElem?_cons_zero]; rfl)
        · skip
          go_simp
          (first | (go_at_call 7; refine (cut40_any _ _).mono ?_; rintro e w' ⟨rfl, rfl⟩) | (refine step_push rfl (.tmp 148) (.tmp 170) 25 rfl 41 (.agg #[zs, zs, .int .i64 0]) 3 40 Try.underlying25 infoAcc rfl (by decide) (.slice A1 l.length c1) _ _ (by simp [Act.eval, Act.put]) HL.out.own #[.string ⟨(cutS sa).toArray⟩, .string ⟨(cutS sb).toArray⟩, .int .i64 n] (by simp [Act.eval, Act.put]) rfl (by intro u hu; simp at hu; rcases hu with rfl | rfl | rfl <;> rfl) (by omega) (by unfold maxLen; omega) ?_; intro g4 cap4 w4 p1 p2 p3; have b2 := HO.out.fr p2 Hnb.out; have r0 := b2.cell 3; have r1 := b2.frozen 3; simp at r0; have r2 := p2.cell (p := ⟨bc, 3, none⟩) hlc Hnc.out; rw [t0] at r2; have ra0 := (p2.cell (p := ad.add (k * 3)) hla Hna.out).trans c0'; have ra1 := (p2.cell (p := ⟨(ad.add (k * 3)).block, (ad.add (k * 3)).off + 1, none⟩) hla Hna.out).trans c1'; have ra2 := (p2.cell (p := ⟨(ad.add (k * 3)).block, (ad.add (k * 3)).off + 2, none⟩) hla Hna.out).trans c2'; have P1 := Lib.hid p1; have P2 := Lib.hid p2; have P3 := Lib.hid p3; have B2 := Lib.hid b2; clear p1 p2 p3 b2) | (refine step_pushD rfl (.tmp 148) (.tmp 170) 25 rfl 41 (.agg #[zs, zs, .int .i64 0]) 3 40 Try.underlying25 infoAcc rfl (by decide) (.slice A1 l.length c1) _ _ (by simp [Act.eval, Act.put]) HL.out.own #[.string ⟨(cutS sa).toArray⟩, .string ⟨(cutS sb).toArray⟩, .int .i64 n] (by simp [Act.eval, Act.put]) rfl (by intro u hu; simp at hu; rcases hu with rfl | rfl | rfl <;> rfl) (by omega) (by unfold maxLen; omega) ?_; intro g4 cap4 w4 p1 p2 p3; have b2 := HO.out.fr p2 Hnb.out; have r0 := b2.cell 3; have r1 := b2.frozen 3; simp at r0; have r2 := p2.cell (p := ⟨bc, 3, none⟩) hlc Hnc.out; rw [t0] at r2; have ra0 := (p2.cell (p := ad.add (k * 3)) hla Hna.out).trans c0'; have ra1 := (p2.cell (p := ⟨(ad.add (k * 3)).block, (ad.add (k * 3)).off + 1, none⟩) hla Hna.out).trans c1'; have ra2 := (p2.cell (p := ⟨(ad.add (k * 3)).block, (ad.add (k * 3)).off + 2, none⟩) hla Hna.out).trans c2'; have P1 := Lib.hid p1; have P2 := Lib.hid p2; have P3 := Lib.hid p3; have B2 := Lib.hid b2; clear p1 p2 p3 b2))
          refine hK.out _ _ ?_ (fun hNew => ?_)
          · ((try dsimp only); (go_keep))
          revert hNew
          clear hHeld hK K
          intro hHeld
          (try simp only [Act.put, List.setIfInBounds_toArray, List.set_cons_zero, List.set_cons_succ])
          refine wpAnyH_take (i := 22) (v := ?_) rfl (by kernel_rfl) (by kernel_rfl) (by kernel_rfl) (fun _ _ _ h => h) (Or.inl ⟨by rfl, ?_⟩) (by assumption) ?_
          rotate_left
          · (intro w hSw; (try dsimp only at hSw); (try simp only [List.getElem_toArray, List.getElem_cons_succ, List.getElem_cons_zero]); go_simp; all_goals with_reducible rfl)
          (try simp only [Act.put, List.setIfInBounds_toArray, List.set_cons_zero, List.set_cons_succ])
          refine wpAnyH_ready (rs := [1, 23]) (by kernel_rfl) (by simp) ?_
          refine AllReadyH.cons (o := ?_) ?_ (fun K hK => ?_) ?_
          rotate_left
          · (simp only [List.getElem?_toArray, List.getElem?_cons_succ, List.getElem?_cons_zero]; rfl)
          · skip
            go_simp
            refine hK.out _ _ ?_ (fun hNew => ?_)
            · ((try dsimp only); (go_keep))
            revert hNew
            clear hHeld hK K
            intro hHeld
            (try simp only [Act.put, List.setIfInBounds_toArray, List.set_cons_zero, List.set_cons_succ])
            refine wpAnyH_ready (rs := [23]) (by kernel_rfl) (by simp) ?_
            refine AllReadyH.cons (o := ?_) ?_ (fun K hK => ?_) ?_
            rotate_left
            · (simp only [List.getElem?_toArray, List.getElem?_cons_succ, List.getElem?_cons_zero]; rfl)
            · skip
              go_simp
              refine hK.out _ _ ?_ (fun hNew => ?_)
              · ((try dsimp only); (go_keep))
              revert hNew
              clear hHeld hK K
              intro hHeld
              (try simp only [Act.put, List.setIfInBounds_toArray, List.set_cons_zero, List.set_cons_succ])
              refine wpAnyH_ready (rs := [24]) (by kernel_rfl) (by simp) ?_
              refine AllReadyH.cons (o := ?_) ?_ (fun K hK => ?_) ?_
              rotate_left
              · (simp only [List.getElem?_toArray, List.getElem?_cons_succ, List.getElem?_cons_zero]; rfl)
              · skip
                (first | (go_at_call 7; refine (cut40_any _ _).mono ?_; rintro e w' ⟨rfl, rfl⟩) | (refine step_push rfl (.tmp 148) (.tmp 170) 25 rfl 41 (.agg #[zs, zs, .int .i64 0]) 3 40 Try.underlying25 infoAcc rfl (by decide) (.slice A1 l.length c1) _ _ (by simp [Act.eval, Act.put]) HL.out.own #[.string ⟨(cutS sa).toArray⟩, .string ⟨(cutS sb).toArray⟩, .int .i64 n] (by simp [Act.eval, Act.put]) rfl (by intro u hu; simp at hu; rcases hu with rfl | rfl | rfl <;> rfl) (by omega) (by unfold maxLen; omega) ?_; intro g4 cap4 w4 p1 p2 p3; have b2 := HO.out.fr p2 Hnb.out; have r0 := b2.cell 3; have r1 := b2.frozen 3; simp at r0; have r2 := p2.cell (p := ⟨bc, 3, none⟩) hlc Hnc.out; rw [t0] at r2; have ra0 := (p2.cell (p := ad.add (k * 3)) hla Hna.out).trans c0'; have ra1 := (p2.cell (p := ⟨(ad.add (k * 3)).block, (ad.add (k * 3)).off + 1, none⟩) hla Hna.out).trans c1'; have ra2 := (p2.cell (p := ⟨(ad.add (k * 3)).block, (ad.add (k * 3)).off + 2, none⟩) hla Hna.out).trans c2'; have P1 := Lib.hid p1; have P2 := Lib.hid p2; have P3 := Lib.hid p3; have B2 := Lib.hid b2; clear p1 p2 p3 b2) | (refine step_pushD rfl (.tmp 148) (.tmp 170) 25 rfl 41 (.agg #[zs, zs, .int .i64 0]) 3 40 Try.underlying25 infoAcc rfl (by decide) (.slice A1 l.length c1) _ _ (by simp [Act.eval, Act.put]) HL.out.own #[.string ⟨(cutS sa).toArray⟩, .string ⟨(cutS sb).toArray⟩, .int .i64 n] (by simp [Act.eval, Act.put]) rfl (by intro u hu; simp at hu; rcases hu with rfl | rfl | rfl <;> rfl) (by omega) (by unfold maxLen; omega) ?_; intro g4 cap4 w4 p1 p2 p3; have b2 := HO.out.fr p2 Hnb.out; have r0 := b2.cell 3; have r1 := b2.frozen 3; simp at r0; have r2 := p2.cell (p := ⟨bc, 3, none⟩) hlc Hnc.out; rw [t0] at r2; have ra0 := (p2.cell (p := ad.add (k * 3)) hla Hna.out).trans c0'; have ra1 := (p2.cell (p := ⟨(ad.add (k * 3)).block, (ad.add (k * 3)).off + 1, none⟩) hla Hna.out).trans c1'; have ra2 := (p2.cell (p := ⟨(ad.add (k * 3)).block, (ad.add (k * 3)).off + 2, none⟩) hla Hna.out).trans c2'; have P1 := Lib.hid p1; have P2 := Lib.hid p2; have P3 := Lib.hid p3; have B2 := Lib.hid b2; clear p1 p2 p3 b2))
                refine hK.out _ _ ?_ (fun hNew => ?_)
                · ((try dsimp only); (go_keep))
                revert hNew
                clear hHeld hK K
                intro hHeld
                (try simp only [Act.put, List.setIfInBounds_toArray, List.set_cons_zero, List.set_cons_succ])
                refine wpAnyH_take (i := 25) (v := ?_) rfl (by kernel_rfl) (by kernel_rfl) (by kernel_rfl) (fun _ _ _ h => h) (Or.inl ⟨by rfl, ?_⟩) (by assumption) ?_
                rotate_left
                · (intro w hSw; (try dsimp only at hSw); (try simp only [List.getElem_toArray, List.getElem_cons_succ, List.getElem_cons_zero]); go_simp; all_goals with_reducible rfl)
                (try simp only [Act.put, List.setIfInBounds_toArray, List.set_cons_zero, List.set_cons_succ])
                refine wpAnyH_ready (rs := [26]) (by kernel_rfl) (by simp) ?_
                refine AllReadyH.cons (o := ?_) ?_ (fun K hK => ?_) ?_
                rotate_left
                · (simp only [List.getElem?_toArray, List.getElem?_cons_succ, List.getElem?_cons_zero]; rfl)
                · skip
                  go_simp
                  refine hK.out _ _ ?_ (fun hNew => ?_)
                  · ((try dsimp only); (go_keep))
                  revert hNew
                  clear hHeld hK K
                  intro hHeld
                  (try simp only [Act.put, List.setIfInBounds_toArray, List.set_cons_zero, List.set_cons_succ])
                  refine wpAnyH_done (by kernel_rfl) ?_ _
                  refine NoPanic.normal ?_
                  go_wp2
                  go_roundw
                  case rel => exact ⟨k + 1, m + 1, _, l ++ [[.string ⟨(cutS sa).toArray⟩, .string ⟨(cutS sb).toArray⟩, .int .i64 n]], by go_num, by omega, by omega, (show _ = _ from by have := Hm.out; simp [this]), HL.out.push stable_qacc hbo (by first | exact Fr.refl _ _ | exact (Fr.refl _ _).drew) (S2 := No) (fun b h => h.elim) rfl ⟨(cutS sa, cutS sb, n), by simp, ⟨rfl, (cut40_le _)⟩, by simp, ⟨rfl, (cut40_le _)⟩, rfl, hn⟩ P1.out P2.out (fun g hg => by have := P3.out; injection hg with e; subst e; exact this) ((Fr.refl (Just bo) w4).setCell (p := ⟨bo, 3, none⟩) (.inl rfl) _), (show Blk _ _ _ _ from B2.out.put 3 _)⟩
                  case measure => simp [intOf]; omega
                exact AllReadyH.nil
              exact AllReadyH.nil
            exact AllReadyH.nil
          refine AllReadyH.cons (o := ?_) ?_ (fun K hK => ?_) ?_
          rotate_left
          · (simp only [List.getElem?_toArray, List.getElem?_cons_succ, List.getElem?_cons_zero]; rfl)
          · skip
            go_simp
            refine hK.out _ _ ?_ (fun hNew => ?_)
            · ((try dsimp only); (go_keep))
            revert hNew
            clear hHeld hK K
            intro hHeld
            (try simp only [Act.put, List.setIfInBounds_toArray, List.set_cons_zero, List.set_cons_succ])
            refine wpAnyH_ready (rs := [1]) (by kernel_rfl) (by simp) ?_
            refine AllReadyH.cons (o := ?_) ?_ (fun K hK => ?_) ?_
            rotate_left
            · (simp only [List.getElem?_toArray, List.getElem?_cons_succ, List.getElem?_cons_zero]; rfl)
            · skip
              go_simp
              refine hK.out _ _ ?_ (fun hNew => ?_)
              · ((try dsimp only); (go_keep))
              revert hNew
              clear hHeld hK K
              intro hHeld
              (try simp only [Act.put, List.setIfInBounds_toArray, List.set_cons_zero, List.set_cons_succ])
              refine wpAnyH_ready (rs := [24]) (by kernel_rfl) (by simp) ?_
              refine AllReadyH.cons (o := ?_) ?_ (fun K hK => ?_) ?_
              rotate_left
              · (simp only [List.getElem?_toArray, List.getElem?_cons_succ, List.getElem?_cons_zero]; rfl)
              · skip
                (first | (go_at_call 7; refine (cut40_any _ _).mono ?_; rintro e w' ⟨rfl, rfl⟩) | (refine step_push rfl (.tmp 148) (.tmp 170) 25 rfl 41 (.agg #[zs, zs, .int .i64 0]) 3 40 Try.underlying25 infoAcc rfl (by decide) (.slice A1 l.length c1) _ _ (by simp [Act.eval, Act.put]) HL.out.own #[.string ⟨(cutS sa).toArray⟩, .string ⟨(cutS sb).toArray⟩, .int .i64 n] (by simp [Act.eval, Act.put]) rfl (by intro u hu; simp at hu; rcases hu with rfl | rfl | rfl <;> rfl) (by omega) (by unfold maxLen; omega) ?_; intro g4 cap4 w4 p1 p2 p3; have b2 := HO.out.fr p2 Hnb.out; have r0 := b2.cell 3; have r1 := b2.frozen 3; simp at r0; have r2 := p2.cell (p := ⟨bc, 3, none⟩) hlc Hnc.out; rw [t0] at r2; have ra0 := (p2.cell (p := ad.add (k * 3)) hla Hna.out).trans c0'; have ra1 := (p2.cell (p := ⟨(ad.add (k * 3)).block, (ad.add (k * 3)).off + 1, none⟩) hla Hna.out).trans c1'; have ra2 := (p2.cell (p := ⟨(ad.add (k * 3)).block, (ad.add (k * 3)).off + 2, none⟩) hla Hna.out).trans c2'; have P1 := Lib.hid p1; have P2 := Lib.hid p2; have P3 := Lib.hid p3; have B2 := Lib.hid b2; clear p1 p2 p3 b2) | (refine step_pushD rfl (.tmp 148) (.tmp 170) 25 rfl 41 (.agg #[zs, zs, .int .i64 0]) 3 40 Try.underlying25 infoAcc rfl (by decide) (.slice A1 l.length c1) _ _ (by simp [Act.eval, Act.put]) HL.out.own #[.string ⟨(cutS sa).toArray⟩, .string ⟨(cutS sb).toArray⟩, .int .i64 n] (by simp [Act.eval, Act.put]) rfl (by intro u hu; simp at hu; rcases hu with rfl | rfl | rfl <;> rfl) (by omega) (by unfold maxLen; omega) ?_; intro g4 cap4 w4 p1 p2 p3; have b2 := HO.out.fr p2 Hnb.out; have r0 := b2.cell 3; have r1 := b2.frozen 3; simp at r0; have r2 := p2.cell (p := ⟨bc, 3, none⟩) hlc Hnc.out; rw [t0] at r2; have ra0 := (p2.cell (p := ad.add (k * 3)) hla Hna.out).trans c0'; have ra1 := (p2.cell (p := ⟨(ad.add (k * 3)).block, (ad.add (k * 3)).off + 1, none⟩) hla Hna.out).trans c1'; have ra2 := (p2.cell (p := ⟨(ad.add (k * 3)).block, (ad.add (k * 3)).off + 2, none⟩) hla Hna.out).trans c2'; have P1 := Lib.hid p1; have P2 := Lib.hid p2; have P3 := Lib.hid p3; have B2 := Lib.hid b2; clear p1 p2 p3 b2))
                refine hK.out _ _ ?_ (fun hNew => ?_)
                · ((try dsimp only); (go_keep))
                revert hNew
                clear hHeld hK K
                intro hHeld
                (try simp only [Act.put, List.setIfInBounds_toArray, List.set_cons_zero, List.set_cons_succ])
                refine wpAnyH_take (i := 25) (v := ?_) rfl (by kernel_rfl) (by kernel_rfl) (by kernel_rfl) (fun _ _ _ h => h) (Or.inl ⟨by rfl, ?_⟩) (by assumption) ?_
                rotate_left
                · (intro w hSw; (try dsimp only at hSw); (try simp only [List.getElem_toArray, List.getElem_cons_succ, List.getElem_cons_zero]); go_simp; all_goals with_reducible rfl)
                (try simp only [Act.put, List.setIfInBounds_toArray, List.set_cons_zero, List.set_cons_succ])
                refine wpAnyH_ready (rs := [26]) (by kernel_rfl) (by simp) ?_
                refine AllReadyH.cons (o := ?_) ?_ (fun K hK => ?_) ?_
                rotate_left
                · (simp only [List.getElem?_toArray, List.getElem?_cons_succ, List.getElem?_cons_zero]; rfl)
                · skip
                  go_simp
                  refine hK.out _ _ ?_ (fun hNew => ?_)
                  · ((try dsimp only); (go_keep))
                  revert hNew
                  clear hHeld hK K
                  intro hHeld
                  (try simp only [Act.put, List.setIfInBounds_toArray, List.set_cons_zero, List.set_cons_succ])
                  refine wpAnyH_done (by kernel_rfl) ?_ _
                  refine NoPanic.normal ?_
                  go_wp2
                  go_roundw
                  case rel => exact ⟨k + 1, m + 1, _, l ++ [[.string ⟨(cutS sa).toArray⟩, .string ⟨(cutS sb).toArray⟩, .int .i64 n]], by go_num, by omega, by omega, (show _ = _ from by have := Hm.out; simp [this]), HL.out.push stable_qacc hbo (by first | exact Fr.refl _ _ | exact (Fr.refl _ _).drew) (S2 := No) (fun b h => h.elim) rfl ⟨(cutS sa, cutS sb, n), by simp, ⟨rfl, (cut40_le _)⟩, by simp, ⟨rfl, (cut40_le _)⟩, rfl, hn⟩ P1.out P2.out (fun g hg => by have := P3.out; injection hg with e; subst e; exact this) ((Fr.refl (Just bo) w4).setCell (p := ⟨bo, 3, none⟩) (.inl rfl) _), (show Blk _ _ _ _ from B2.out.put 3 _)⟩
                  case measure => simp [intOf]; omega
                exact AllReadyH.nil
              exact AllReadyH.nil
            exact AllReadyH.nil
          exact AllReadyH.nil
        exact AllReadyH.nil
      exact AllReadyH.nil
    · obtain ⟨ys, hys⟩ := HL.out.read_sf stable_qacc hbo (by have := Hm.out; omega)
      have HY := Lib.hid hys
      clear hys
      by_cases h1 : k < xA.length
      all_goals
        try have h2 : ¬ k < 12 := fun h => hlt ⟨h1, h⟩
        clear hlt
        go_wp2
        refine HK.out _ _ ?_
        exact few_B c0 (xC, xG, xU, xA, xB) w wr S hS Hx.out bc br bo _ _ (kept_sf stable_qcon hy1 HL.out.fr) _ _ (kept_sf stable_qgrp hy2 HL.out.fr) _ _ (kept_sf stable_qusr hy3 HL.out.fr) _ _ HY.out (ST.out.next HL.out.fr HO.out) _ _ _ _ _ _ _ _ _ _ _ _ _ _ _ _ _ _ _ _ _ _ _ _ _ _ _ _ _ _ _ _ _ _ _ _ _ _ _ _ _ _ _ _ _ _ _ _ _ _ _ _ _ _ _ _ _ _ _ _ _ _ _ _ _ _ _ _ _ _ _ _ _ _ _ _ _ _ _ _ _ _ _ _ _ _ _ _ _ _ _ _ _ _ _ _ _ _ _ _ _ _ _ _ _ _ _ _ _ _ _ _ _ _ _ _ _ _ _ _ _ _ _ _ _ _ _ _ _ _ _ _ _ _ _ _ _ _ _ _ _ _ _ _ _ _ _ _ _ _ _ _ _ _ _ _ _ _ _ _ _ _ _ _ _ _ _ _ _ _ _ _ _ _ _ _ _ _ _ _ _ _ _ _ _ _ _
end Conf
end Go.Proofs.Ytompphakagoaeaa
